/- The law on ScoreOf: scores are those of the way. -/
import Derived.Test.YtfhefngpeknhlaaDoorLst
import Derived.Test.YtfhefngpeknhlaaDoorAnsI
import Derived.Test.YtfhefngpeknhlaaDoorSco
import Derived.Test.YtfhefngpeknhlaaDoorCom
namespace Go.Proofs.YtfhefngpeknhlaaDoor
set_option linter.unusedVariables false
set_option linter.unusedSimpArgs false
open Go.RowKit

theorem exp_com {S : Nat → Nat → ByteArray} {n k : Nat} {way : Int} (hk : tokB S n = true) (hlt : k < n) (h0 : 0 ≤ way) (h1 : way ≤ 15) : expAt (abS S way) 0 k = comB (S k 0).data.toList (S k 1).data.toList way := by
  have h3 : takB (S k 0).data.toList (S k 1).data.toList = true := tokB_at hk hlt
  have e : comB (S k 0).data.toList (S k 1).data.toList way = decide (tkS (S k 0).data.toList (S k 1).data.toList way = tkS (S k 0).data.toList (S k 1).data.toList 0) := by simp [comB, pairB, h3, h0, h1]
  rw [e]
  show decide (tkS (S k 0).data.toList (S k 1).data.toList 0 = tkS (S k 0).data.toList (S k 1).data.toList way) = _
  exact decide_eq_decide.2 eq_comm
theorem sco_ok {S : Nat → Nat → ByteArray} {n : Nat} (h : tokB S n = true) : scoI S n = (cntE S n : Int) := by simp [scoI, h]
theorem sco_no {S : Nat → Nat → ByteArray} {n : Nat} (h : tokB S n = false) : scoI S n = -1 := by simp [scoI, h]

set_option maxRecDepth 20000 in
set_option maxHeartbeats 8000000 in
/-- The law on ScoreOf. -/
theorem law_ScoreOf (A : Option Addr) (len cap : Nat) (w : World) (hc : CodeIn w A len cap) :
    Calls Tryd.prog 10 #[.slice A len cap] w fun e w' => e = .returned (.bool true) ∧ Below w.heap.size w w' := by
  have hlc := hc.1
  have hcm := hc.2.1
  unfold maxLen at hcm
  by_cases hbig : 1048576 < len
  · go_enter Tryd.func10, Tryd.ntmps10
    go_wp2_with fail
    go_ret
    exact ⟨rfl, Below.refl _ _⟩
  have hbig' : len ≤ 1048576 := by omega
  clear hbig
  go_enter Tryd.func10, Tryd.ntmps10
  go_wp2_with fail
  refine (draw_Score A len cap _ hc).mono ?_
  rintro e w1 ⟨v, n, S, rfl, hn, hS, o1, b1⟩
  clear hc
  have HS : Hid (∀ i, i < n → ∀ j, j < 3 → (S i j).size ≤ maxLen) := Lib.hid fun i _ j _ => by have := hS i j; unfold maxLen; omega
  have HSa : Hid (∀ way : Int, ∀ i, i < n → ∀ j, j < 3 → (abS S way i j).size ≤ maxLen) := Lib.hid fun way i _ j _ => by have := abS_size S way 110 (by decide) i j (hS i j); unfold maxLen; omega
  have hR1 := Recs.of_own o1
  obtain ⟨A1, cap1, rfl, hnc, hcm1, _⟩ := id hR1
  have HR1 := Lib.hid hR1
  unfold maxLen at hcm1
  have CI := Lib.hid fun W hR hB => iScore W w1.heap.size (.slice A1 n cap1) n S hR hB HS.out
  have CS := Lib.hid fun W hR hB => sScore W w1.heap.size (.slice A1 n cap1) n S hR hB HS.out
  have CA := Lib.hid fun W (way : Int) hR hB => iAnswered W w1.heap.size (.slice A1 n cap1) n S way hR hB HS.out
  clear hS o1 hR1
  go_wp2_with fail
  refine (CI.out _ HR1.out (Nat.le_refl _)).mono ?_
  rintro e w2 ⟨rfl, b2⟩
  have hB2 := below_own b1 b2 b1.size
  have HR2 := Lib.hid (HR1.out.below b2 (Nat.le_refl _))
  have hs2 := b2.size
  clear b1 b2 HR1
  go_wp2_with fail
  refine (CS.out _ HR2.out hs2).mono ?_
  rintro e w3 ⟨rfl, b3⟩
  have hB3 := below_own hB2 b3 hB2.size
  have HR3 := Lib.hid (HR2.out.below b3 hs2)
  have hs3 : w1.heap.size ≤ w3.heap.size := by have := b3.size; omega
  clear hB2 b3 HR2 hs2
  cases hk : tokB S n with
  | false =>
    rw [sco_no hk]
    go_wp2_with (go_at_call 20; refine (alive_any _).mono ?_; rintro e w' ⟨rfl, rfl⟩)
    go_ret
    exact ⟨rfl, hB3⟩
  | true =>
    rw [sco_ok hk]
    have hle := cntE_le S n
    generalize cntE S n = c0 at *
    have HX := Lib.hid fun (way k : Nat) (hlt : k < n) (hw : way < 16) => exp_com (way := way) hk hlt (by omega) (by omega)
    have HA := Lib.hid fun (way : Nat) (hw : way < 16) => abN_ok (S := S) (n := n) (way := way) hk (by omega) (by omega)
    have HSc := Lib.hid fun (way : Nat) => sco_ok (S := abS S way) (n := n) (by rw [tokB_ab]; exact hk)
    have CM := Lib.hid fun k (hlt : k < n) (way : Int) W => iComes (S k 0) (S k 1) way (HS.out k hlt 0 (by omega)) (HS.out k hlt 1 (by omega)) W
    clear hk CI CS
    go_wp2_with fail
    go_loopg [5, 6, 7] 16 (fun g s5 s6 s7 wr => ∃ way : Nat, g + way = 16 ∧ s5 = .int .i64 way ∧ Below w3.heap.size w3 wr)
    case atStart => exact ⟨0, rfl, rfl, Below.refl _ _⟩
    case round =>
      obtain ⟨way, hway, rfl, hB⟩ := hrel
      by_cases hlt : way < 16
      · obtain ⟨go, hgo⟩ : ∃ x, x = gk := ⟨_, rfl⟩
        have HAw := Lib.hid (HA.out way hlt)
        have HScw := Lib.hid (HSc.out way)
        have HXw := Lib.hid fun k hk => HX.out way k hk hlt
        have hwi : (way : Int) < 16 := by omega
        have hwd : decide ((way : Int) < 16) = true := decide_eq_true hwi
        go_wp2_with fail
        go_loopg [6, 7] n (fun g s6 s7 wr2 => ∃ k y : Nat, g + k = n ∧ s7 = .int .i64 k ∧ s6 = .int .i64 y ∧ Hid (y = cntE (abS S way) k) ∧ Below w3.heap.size w3 wr2)
        case atStart => exact ⟨0, 0, rfl, rfl, rfl, Lib.hid rfl, hB⟩
        case round =>
          obtain ⟨k, y, hk, rfl, rfl, HY, hB'⟩ := hrel
          have hy := cntE_le (abS S way) k
          rw [← HY.out] at hy
          by_cases hkn : k < n
          · have hRr := HR3.out.below hB' hs3
            obtain ⟨_, _, hv, _, _, hcell⟩ := hRr
            cases hv
            obtain ⟨b, o, rfl, hb, hc⟩ := hcell (by omega)
            have e0 := hc k hkn 0 (by omega)
            have e1 := hc k hkn 1 (by omega)
            rw [Nat.add_zero] at e0
            simp only [SV] at e0 e1
            have HK := Lib.hid (CM.out k hkn way)
            rw [← HXw.out k hkn] at HK
            have HYe := Lib.hid fun h => cntE_yes (S := abS S way) (k := k) h
            have HNo := Lib.hid fun h => cntE_no (S := abS S way) (k := k) h
            rw [← HY.out] at HYe HNo
            have i1 : (k : Int) < (n : Int) := by omega
            have w1' : b < wr.heap.size := by have := hB'.size; omega
            have HB := Lib.hid hB'
            clear hc hB' hcell
            generalize expAt (abS S way) 0 k = x at *
            generalize S k 0 = q0 at *
            generalize S k 1 = q1 at *
            cases x with
            | true =>
              have HE := Lib.hid (HYe.out (by first | rfl | trivial))
              clear HYe HNo
              go_wp2_with fail
              go_region_held3 (fun w' => w'.cell? ⟨b, o + k * 3, none⟩ = some (.string q0) ∧ w'.cell? ⟨b, o + k * 3 + 1, none⟩ = some (.string q1))
                (go_keep)
                (first | (go_at_call 45; refine (HK.out _).mono ?_; rintro e w4 ⟨rfl, q2⟩; have g0 := (q2.cell (p := ⟨b, o + k * 3, none⟩) w1').trans e0; have g1 := (q2.cell (p := ⟨b, o + k * 3 + 1, none⟩) w1').trans e1))
              go_wp2_with fail
              go_roundg (gk - 1)
              case measure => omega
              case rel => exact ⟨k + 1, y + 1, by omega, by go_num, by go_num, Lib.hid HE.out.symm, by first | exact below_own HB.out q2 HB.out.size | exact below_own HB.out.drew q2 HB.out.size⟩
            | false =>
              have HE := Lib.hid (HNo.out (by first | rfl | trivial))
              clear HYe HNo
              go_wp2_with fail
              go_region_held3 (fun w' => w'.cell? ⟨b, o + k * 3, none⟩ = some (.string q0) ∧ w'.cell? ⟨b, o + k * 3 + 1, none⟩ = some (.string q1))
                (go_keep)
                (first | (go_at_call 45; refine (HK.out _).mono ?_; rintro e w4 ⟨rfl, q2⟩; have g0 := (q2.cell (p := ⟨b, o + k * 3, none⟩) w1').trans e0; have g1 := (q2.cell (p := ⟨b, o + k * 3 + 1, none⟩) w1').trans e1))
              go_wp2_with fail
              go_roundg (gk - 1)
              case measure => omega
              case rel => exact ⟨k + 1, y, by omega, by go_num, rfl, Lib.hid HE.out.symm, by first | exact below_own HB.out q2 HB.out.size | exact below_own HB.out.drew q2 HB.out.size⟩
          · obtain rfl : k = n := by omega
            have hRr := HR3.out.below hB' hs3
            have hsr : w1.heap.size ≤ wr.heap.size := by have := hB'.size; omega
            have C5 := Lib.hid (CA.out wr way hRr hsr)
            rw [HAw.out] at C5
            have CX := Lib.hid fun W B v hR hB => iScore W B v k (abS S way) hR hB (HSa.out way)
            rw [HScw.out, ← HY.out] at CX
            have HB := Lib.hid hB'
            clear hRr hB' HY
            go_wp2_with fail
            refine C5.out.mono ?_
            rintro e w4 ⟨v4, rfl, o4, b4⟩
            have hB4 := below_own HB.out b4 HB.out.size
            go_wp2_with fail
            refine (CX.out _ _ v4 (Recs.of_own o4) (Nat.le_refl _)).mono ?_
            rintro e w5 ⟨rfl, b5⟩
            have hB5 := below_own hB4 b5 hB4.size
            go_wp2_with fail
            go_roundg (go - 1)
            case measure => omega
            case rel => exact ⟨way + 1, by omega, by go_num, hB5⟩
      · obtain rfl : way = 16 := by omega
        go_wp2_with fail
        go_ret
        exact ⟨by first | rfl | (simp <;> omega), below_own hB3 hB hB3.size⟩
end Go.Proofs.YtfhefngpeknhlaaDoor
