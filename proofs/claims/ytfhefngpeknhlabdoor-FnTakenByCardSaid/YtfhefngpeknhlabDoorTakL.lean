/- The law on TakenBy: without faults it is right. -/
import Derived.Test.YtfhefngpeknhlabDoorLeft
import Derived.Test.YtfhefngpeknhlabDoorTkw
import Derived.Test.YtfhefngpeknhlabDoorGr
import Derived.Test.YtfhefngpeknhlabDoorTkq
namespace Go.Proofs.YtfhefngpeknhlabDoor
set_option linter.unusedVariables false
set_option linter.unusedSimpArgs false
open Go.RowKit

theorem pk_yes {s t : List UInt8} {way : Int} (h : pairB s t way = true) : pkS s t way = tkS s t way := if_pos h
theorem pk_no {s t : List UInt8} {way : Int} (h : pairB s t way = false) : pkS s t way = ⟨#[]⟩ := if_neg (by rw [h]; decide)

set_option maxRecDepth 20000 in
set_option maxHeartbeats 4000000 in
/-- The law on TakenBy. -/
theorem law_TakenBy (A : Option Addr) (len cap : Nat) (w : World) (hc : CodeIn w A len cap) :
    Calls Tryd.prog 6 #[.slice A len cap] w fun e w' => e = .returned (.bool true) ∧ Below w.heap.size w w' := by
  have hlc := hc.1
  have hcm := hc.2.1
  unfold maxLen at hcm
  by_cases hbig : 1048576 < len
  · go_enter Tryd.func6, Tryd.ntmps6
    go_wp2_with fail
    go_ret
    exact ⟨rfl, Below.refl _ _⟩
  have hbig' : len ≤ 1048576 := by omega
  clear hbig
  go_enter Tryd.func6, Tryd.ntmps6
  go_wp2_with fail
  refine (draw_TakenBy A len cap _ hc).mono ?_
  rintro e w1 ⟨s, t, way, rfl, hs, ht, hw0, hw1, b1⟩
  clear hc
  have hsm : s.size ≤ maxLen := by unfold maxLen; omega
  have htm : t.size ≤ maxLen := by unfold maxLen; omega
  have CI := Lib.hid fun (n : Int) W => iTakenBy s t n hsm htm W
  have CS := Lib.hid fun (n : Int) W => sTakenBy s t n hsm htm W
  have C1 := Lib.hid fun W => CI.out way W
  have C2 := Lib.hid fun W => CS.out way W
  cases hk : pairB s.data.toList t.data.toList way with
  | false =>
    rw [pk_no hk, hk] at C1 C2
    clear hk CI CS hsm htm
    go_wp2_with fail
    refine (C1.out _).mono ?_
    rintro e w2 ⟨rfl, b2⟩
    have hB2 := below_own b1 b2 b1.size
    go_wp2_with fail
    refine (C2.out _).mono ?_
    rintro e w3 ⟨rfl, b3⟩
    have hB3 := below_own hB2 b3 hB2.size
    go_wp2_with (go_at_call 11; refine (alive_any _).mono ?_; rintro e w' ⟨rfl, rfl⟩)
    go_ret
    exact ⟨rfl, hB3⟩
  | true =>
    rw [pk_yes hk, hk] at C1 C2
    have htk : takB s.data.toList t.data.toList = true := by
      unfold pairB at hk
      rw [Bool.and_eq_true] at hk
      exact hk.1
    have hn := takB_num htk
    have h0 : pairB s.data.toList t.data.toList 0 = true := by simp [pairB, htk]
    have C3 := Lib.hid fun W => CI.out 0 W
    rw [pk_yes h0, h0] at C3
    have CD := Lib.hid fun W => iDifference s t hsm htm htk W
    have hx := tkS_num hn.1 hn.2 way
    rw [str_len] at hx
    have CN := Lib.hid fun W => iNum (tkS s.data.toList t.data.toList way) (by have := hx.2; unfold maxLen; omega) W
    rw [hx.1] at CN
    have hle := hx.2
    clear hk htk hn h0 hx CI CS hsm htm
    generalize tkS s.data.toList t.data.toList way = x at *
    generalize tkS s.data.toList t.data.toList 0 = z at *
    go_wp2_with fail
    refine (C1.out _).mono ?_
    rintro e w2 ⟨rfl, b2⟩
    have hB2 := below_own b1 b2 b1.size
    go_wp2_with fail
    refine (C2.out _).mono ?_
    rintro e w3 ⟨rfl, b3⟩
    have hB3 := below_own hB2 b3 hB2.size
    go_wp2_with fail
    refine (CD.out _).mono ?_
    rintro e w4 ⟨rfl, b4⟩
    have hB4 := below_own hB3 b4 hB3.size
    go_wp2_with fail
    refine (C3.out _).mono ?_
    rintro e w5 ⟨rfl, b5⟩
    have hB5 := below_own hB4 b5 hB4.size
    have hle' : (x.size : Int) ≤ (s.size : Int) := by omega
    go_wp2_with fail
    refine (CN.out _).mono ?_
    rintro e w6 ⟨rfl, rfl⟩
    go_wp2_with fail
    go_ret
    exact ⟨by first | rfl | (simp <;> omega), hB5⟩
end Go.Proofs.YtfhefngpeknhlabDoor
