/- The law on AnswersTo: sixteen ways have sixteen answers. -/
import Derived.Test.YtfhefngpeknhlabDoorAns
import Derived.Test.YtfhefngpeknhlabDoorGr
import Derived.Test.YtfhefngpeknhlabDoorTkq
namespace Go.Proofs.YtfhefngpeknhlabDoor
set_option linter.unusedVariables false
set_option linter.unusedSimpArgs false
open Go.RowKit

theorem pk_in {s t : List UInt8} {way : Int} (hk : takB s t = true) (h0 : 0 ≤ way) (h1 : way ≤ 15) : pairB s t way = true ∧ pkS s t way = tkS s t way := by
  have : pairB s t way = true := by simp [pairB, hk, h0, h1]
  exact ⟨this, by unfold pkS; rw [if_pos this]⟩
theorem tkS_odd {s t : List UInt8} (k : Nat) (h1 : k % 2 = 1) (h2 : k / 2 % 2 = 0) : tkS s t k = tkS s t (k + 2 : Nat) := by
  have : tkL s t k s.length = tkL s t (k + 2 : Nat) s.length := List.map_congr_left fun j _ => tkD_odd s t k j (by omega) (by omega)
  unfold tkS
  rw [this]

set_option maxRecDepth 20000 in
set_option maxHeartbeats 4000000 in
/-- The law on AnswersTo. -/
theorem law_AnswersTo (A : Option Addr) (len cap : Nat) (w : World) (hc : CodeIn w A len cap) :
    Calls Tryd.prog 3 #[.slice A len cap] w fun e w' => e = .returned (.bool true) ∧ Below w.heap.size w w' := by
  have hlc := hc.1
  have hcm := hc.2.1
  unfold maxLen at hcm
  by_cases hbig : 1048576 < len
  · go_enter Tryd.func3, Tryd.ntmps3
    go_wp2_with fail
    go_ret
    exact ⟨rfl, Below.refl _ _⟩
  have hbig' : len ≤ 1048576 := by omega
  clear hbig
  go_enter Tryd.func3, Tryd.ntmps3
  go_wp2_with fail
  refine (draw_Answers A len cap _ hc).mono ?_
  rintro e w1 ⟨s, t, rfl, hs, ht, b1⟩
  clear hc
  have hsm : s.size ≤ maxLen := by unfold maxLen; omega
  have htm : t.size ≤ maxLen := by unfold maxLen; omega
  have CI := Lib.hid fun W => iAnswers s t hsm htm W
  have CS := Lib.hid fun W => sAnswers s t hsm htm W
  have CT := Lib.hid fun (k : Int) W => iTakenBy s t k hsm htm W
  have HP := Lib.hid fun (k : Int) h => pk_in (s := s.data.toList) (t := t.data.toList) (way := k) h
  have HD := Lib.hid fun k => tkS_odd (s := s.data.toList) (t := t.data.toList) k
  have HA : Hid (ansN s.data.toList t.data.toList = if takB s.data.toList t.data.toList = true then 16 else 0) := Lib.hid rfl
  have HF : Hid (∀ k, ansF s.data.toList t.data.toList k = tkS s.data.toList t.data.toList k) := Lib.hid fun _ => rfl
  clear hsm htm
  generalize ansF s.data.toList t.data.toList = F at *
  generalize ansN s.data.toList t.data.toList = n at *
  generalize tkS s.data.toList t.data.toList = tk at *
  generalize pkS s.data.toList t.data.toList = pk at *
  generalize pairB s.data.toList t.data.toList = pr at *
  generalize takB s.data.toList t.data.toList = k at *
  go_wp2_with fail
  refine (CI.out _).mono ?_
  rintro e w2 ⟨v2, rfl, o2, b2⟩
  have hB2 := below_own b1 b2 b1.size
  have s2 := Sl.of_ownV o2
  clear o2 b1 b2
  go_wp2_with fail
  refine (CS.out _).mono ?_
  rintro e w3 ⟨v3, rfl, o3, b3⟩
  have hB3 := below_own hB2 b3 hB2.size
  have s3 := Sl.below s2 b3
  have hs3 := b3.size
  clear s2 hB2 b3
  go_wp2_with fail
  refine (sameTexts _ w3.heap.size _ _ n F (s3.mono hs3) (Sl.of_ownV o3)).mono ?_
  rintro e w4 ⟨rfl, b4⟩
  have hB4 := below_own hB3 b4 hB3.size
  have s4 := Sl.below s3 (b4.mono hs3)
  have hs4 := b4.size
  clear s3 hB3 b4 o3
  obtain ⟨A', cap', rfl, hnc, hcm', hcell⟩ := s4
  have Hc := Lib.hid hcell
  unfold maxLen at hcm'
  clear hcell
  cases k with
  | false =>
    have hn : n = 0 := HA.out
    subst hn
    go_wp2_with (go_at_call 11; refine (alive_any _).mono ?_; rintro e w' ⟨rfl, rfl⟩)
    go_ret
    exact ⟨rfl, hB4⟩
  | true =>
    have hn : n = 16 := HA.out
    subst hn
    obtain ⟨b, o', rfl, hb, hc⟩ := Hc.out (by omega)
    have HC : Hid (∀ j, j < 16 → w4.cell? ⟨b, o' + j, none⟩ = some (.string (tk j))) := Lib.hid fun j hj => by rw [hc j hj]; show some (Value.string (F j)) = _; rw [HF.out j]
    have hbw : b < w4.heap.size := by omega
    clear hc Hc
    go_wp2_with fail
    go_loopg [6, 7, 8] 16 (fun g s6 s7 s8 wr => ∃ k : Nat, g + k = 16 ∧ s6 = .int .i64 k ∧ Below w4.heap.size w4 wr)
    case atStart => exact ⟨0, rfl, rfl, Below.refl _ _⟩
    case round =>
      obtain ⟨k, hk, rfl, hB⟩ := hrel
      by_cases hlt : k < 16
      · have HK := Lib.hid (CT.out k)
        rw [(HP.out k (by first | rfl | trivial) (by omega) (by omega)).1, (HP.out k (by first | rfl | trivial) (by omega) (by omega)).2] at HK
        have e1 := (hB.cell (p := ⟨b, o' + k, none⟩) hbw).trans (HC.out k hlt)
        have hki : (k : Int) < 16 := by omega
        by_cases hodd : k % 2 = 1 ∧ k / 2 % 2 = 0
        · have e2 := (hB.cell (p := ⟨b, o' + (k + 2), none⟩) hbw).trans (HC.out (k + 2) (by omega))
          rw [← HD.out k hodd.1 hodd.2] at e2
          have t1 : ((k : Int) % 2 == 1) = true := by simp; omega
          have t2 : ((k : Int) / 2 % 2 == 0) = true := by simp; omega
          have t3 : (k : Int) + 2 < 16 := by omega
          have HB := Lib.hid hB
          clear hB
          generalize tk k = x at *
          go_wp2_with fail
          refine (HK.out _).mono ?_
          rintro e w6 ⟨rfl, b6⟩
          have c1 := (b6.cell (p := ⟨b, o' + k, none⟩) (by have := HB.out.size; show b < wr.heap.size; omega)).trans e1
          have c2 := (b6.cell (p := ⟨b, o' + (k + 2), none⟩) (by have := HB.out.size; show b < wr.heap.size; omega)).trans e2
          clear e1 e2
          have k1 : (k : Int).tmod 2 = 1 := by rw [Int.tmod_eq_emod_of_nonneg (by omega)]; omega
          obtain ⟨q, hq⟩ : ∃ q : Nat, (k : Int).tdiv 2 = q := ⟨k / 2, by rw [Int.tdiv_eq_ediv_of_nonneg (by omega)]; omega⟩
          have hqk : (q : Int) = k / 2 := by rw [← hq, Int.tdiv_eq_ediv_of_nonneg (by omega)]
          have k2 : (q : Int).tmod 2 = 0 := by rw [Int.tmod_eq_emod_of_nonneg (by omega)]; omega
          have k3 : IntKind.i64.wrap (q : Int) = q := IntWalk.i64_in _ (by omega)
          have k4 : IntKind.i64.wrap ((k : Int) + 2) = (k : Int) + 2 := IntWalk.i64_in _ (by omega)
          clear t1 t2 hqk
          go_wp2_with fail
          go_quiet (fail)
          go_wp2_with fail
          go_roundg (gk - 1)
          case measure => omega
          case rel => exact ⟨k + 1, by omega, by go_num, by first | exact below_drewN (below_own HB.out b6 HB.out.size) _ | exact below_own HB.out b6 HB.out.size⟩
        · generalize tk k = x at *
          by_cases h1 : k % 2 = 1
          · have h2 : k / 2 % 2 = 1 := by omega
            have t1 : ((k : Int) % 2 == 1) = true := by simp; omega
            have t2 : ((k : Int) / 2 % 2 == 0) = false := by simp; omega
            have HB := Lib.hid hB
            clear hB hodd
            go_wp2_with fail
            refine (HK.out _).mono ?_
            rintro e w6 ⟨rfl, b6⟩
            have c1 := (b6.cell (p := ⟨b, o' + k, none⟩) (by have := HB.out.size; show b < wr.heap.size; omega)).trans e1
            clear e1
            have k1 : (k : Int).tmod 2 = 1 := by rw [Int.tmod_eq_emod_of_nonneg (by omega)]; omega
            obtain ⟨q, hq⟩ : ∃ q : Nat, (k : Int).tdiv 2 = q := ⟨k / 2, by rw [Int.tdiv_eq_ediv_of_nonneg (by omega)]; omega⟩
            have hqk : (q : Int) = k / 2 := by rw [← hq, Int.tdiv_eq_ediv_of_nonneg (by omega)]
            have k2 : (q : Int).tmod 2 = 1 := by rw [Int.tmod_eq_emod_of_nonneg (by omega)]; omega
            have k3 : IntKind.i64.wrap (q : Int) = q := IntWalk.i64_in _ (by omega)
            clear t1 t2 hqk
            go_wp2_with fail
            go_quiet (fail)
            go_wp2_with fail
            go_roundg (gk - 1)
            case measure => omega
            case rel => exact ⟨k + 1, by omega, by go_num, by first | exact below_drewN (below_own HB.out b6 HB.out.size) _ | exact below_own HB.out b6 HB.out.size⟩
          · have t1 : ((k : Int) % 2 == 1) = false := by simp; omega
            have HB := Lib.hid hB
            clear hB hodd
            go_wp2_with fail
            refine (HK.out _).mono ?_
            rintro e w6 ⟨rfl, b6⟩
            have c1 := (b6.cell (p := ⟨b, o' + k, none⟩) (by have := HB.out.size; show b < wr.heap.size; omega)).trans e1
            clear e1
            have k1 : (k : Int).tmod 2 = 0 := by rw [Int.tmod_eq_emod_of_nonneg (by omega)]; omega
            clear t1
            go_wp2_with fail
            go_quiet (fail)
            go_wp2_with fail
            go_roundg (gk - 1)
            case measure => omega
            case rel => exact ⟨k + 1, by omega, by go_num, by first | exact below_drewN (below_own HB.out b6 HB.out.size) _ | exact below_own HB.out b6 HB.out.size⟩
      · obtain rfl : k = 16 := by omega
        go_wp2_with fail
        go_ret
        exact ⟨rfl, below_own hB4 hB hB4.size⟩
end Go.Proofs.YtfhefngpeknhlabDoor
