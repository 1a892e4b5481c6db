/- The law on ComesRight. -/
import Derived.Test.YtfhefngpeknhlabDoorCom
import Derived.Test.YtfhefngpeknhlabDoorNoB
import Derived.Test.YtfhefngpeknhlabDoorGr
import Derived.Test.YtfhefngpeknhlabDoorTkq
namespace Go.Proofs.YtfhefngpeknhlabDoor
set_option linter.unusedVariables false
set_option linter.unusedSimpArgs false
open Go.RowKit

theorem cm_in {s t : List UInt8} {way : Int} (hk : takB s t = true) (h0 : 0 ≤ way) (h1 : way ≤ 15) : comB s t way = decide (tkS s t way = tkS s t 0) := by
  simp [comB, pairB, hk, h0, h1]
theorem cm_no {s t : List UInt8} {way : Int} (hk : takB s t = false) : comB s t way = false := by simp [comB, pairB, hk]
theorem cm_out {s t : List UInt8} {way : Int} (h : way < 0 ∨ 15 < way) : comB s t way = false := by
  have : decide (0 ≤ way ∧ way ≤ 15) = false := by simp; omega
  simp [comB, pairB, this]
theorem com_nb {s t : List UInt8} (hk : takB s t = true) : comB s t 1 = nbB s t ∧ comB s t 2 = nbB s t ∧ (nbB s t = true → comB s t 3 = true) ∧ comB s t 0 = true := by
  obtain ⟨hs, ht⟩ := takB_num hk
  rw [cm_in hk (by decide) (by decide), cm_in hk (by decide) (by decide), cm_in hk (by decide) (by decide), cm_in hk (by decide) (by decide)]
  cases hn : nbB s t with
  | true =>
    have h : ∀ k, k < s.length → dg t k ≤ dg s k := by
      intro k hlt
      simp only [nbB, Bool.and_eq_true, List.all_eq_true, List.mem_range, decide_eq_true_eq] at hn
      exact hn.2 k hlt
    have h0 := fun k (hlt : k < s.length) => (tk_none 0 (by decide) (by decide) h k (by omega)).2 hlt
    have e : ∀ way : Int, 0 ≤ way → way ≤ 3 → tkS s t way = tkS s t 0 := fun way w0 w3 => (tkS_iff hs ht way 0).2 fun k hlt => by rw [h0 k hlt, (tk_none way w0 w3 h k (by omega)).2 hlt]
    exact ⟨decide_eq_true (e 1 (by decide) (by decide)), decide_eq_true (e 2 (by decide) (by decide)), fun _ => decide_eq_true (e 3 (by decide) (by decide)), by simp⟩
  | false =>
    have hex : ∃ k, k < s.length ∧ dg s k < dg t k := by
      apply Classical.byContradiction
      intro hno
      have : nbB s t = true := nbB_all hk fun k hlt => by
        by_cases hle : dg t k ≤ dg s k
        · exact hle
        · exact absurd ⟨k, hlt, by omega⟩ hno
      rw [this] at hn
      exact absurd hn (by decide)
    obtain ⟨k, hlt, hd⟩ := hex
    obtain ⟨h1, h2, h3⟩ := tk_some hk k hlt hd
    exact ⟨decide_eq_false fun e => h2 ((tkS_iff hs ht 1 0).1 e (k + 1) h1), decide_eq_false fun e => h3 ((tkS_iff hs ht 2 0).1 e (k + 1) h1), fun h => absurd h (by decide), by simp⟩

set_option maxRecDepth 20000 in
set_option maxHeartbeats 4000000 in
/-- The law on ComesRight. -/
theorem law_ComesRight (A : Option Addr) (len cap : Nat) (w : World) (hc : CodeIn w A len cap) :
    Calls Tryd.prog 4 #[.slice A len cap] w fun e w' => e = .returned (.bool true) ∧ Below w.heap.size w w' := by
  have hlc := hc.1
  have hcm := hc.2.1
  unfold maxLen at hcm
  by_cases hbig : 1048576 < len
  · go_enter Tryd.func4, Tryd.ntmps4
    go_wp2_with fail
    go_ret
    exact ⟨rfl, Below.refl _ _⟩
  have hbig' : len ≤ 1048576 := by omega
  clear hbig
  go_enter Tryd.func4, Tryd.ntmps4
  go_wp2_with fail
  refine (draw_Comes A len cap _ hc).mono ?_
  rintro e w1 ⟨s, t, way, rfl, hs, ht, hw0, hw1, b1⟩
  clear hc
  have hsm : s.size ≤ maxLen := by unfold maxLen; omega
  have htm : t.size ≤ maxLen := by unfold maxLen; omega
  have CI := Lib.hid fun (n : Int) W => iComes s t n hsm htm W
  have CS := Lib.hid fun (n : Int) W => sComes s t n hsm htm W
  have CO := Lib.hid fun W => sOrder s t hsm htm W
  have CN := Lib.hid fun W => iNoB s t hsm htm W
  have HO : Hid (takB s.data.toList t.data.toList = decide (0 ≤ ordI s.data.toList t.data.toList)) := Lib.hid rfl
  have HB := Lib.hid fun h => com_nb (s := s.data.toList) (t := t.data.toList) h
  have HN := Lib.hid fun (n : Int) h => cm_no (s := s.data.toList) (t := t.data.toList) (way := n) h
  have HX := Lib.hid fun (n : Int) h => cm_out (s := s.data.toList) (t := t.data.toList) (way := n) h
  clear hsm htm
  generalize comB s.data.toList t.data.toList = com at *
  generalize nbB s.data.toList t.data.toList = nb at *
  generalize ordI s.data.toList t.data.toList = o at *
  generalize takB s.data.toList t.data.toList = k at *
  go_wp2_with fail
  refine (CI.out way _).mono ?_
  rintro e w2 ⟨rfl, b2⟩
  have hB2 := below_own b1 b2 b1.size
  clear b1 b2
  go_wp2_with fail
  refine (CS.out way _).mono ?_
  rintro e w3 ⟨rfl, b3⟩
  have hB3 := below_own hB2 b3 hB2.size
  clear hB2 b3
  generalize hcw : com way = cw at *
  go_wp2_with fail
  refine (CO.out _).mono ?_
  rintro e w4 ⟨rfl, b4⟩
  have hB4 := below_own hB3 b4 hB3.size
  clear hB3 b4
  cases k with
  | false =>
    have ho : o < 0 := by have := HO.out; simpa using this.symm
    have hc0 : cw = false := by rw [← hcw]; exact HN.out way rfl
    subst hc0
    clear hcw
    go_wp2_with (go_at_call 11; refine (alive_any _).mono ?_; rintro e w' ⟨rfl, rfl⟩)
    go_ret
    exact ⟨rfl, hB4⟩
  | true =>
    have ho : 0 ≤ o := by have := HO.out; simpa using this.symm
    by_cases hlo : way < 0
    · have hc0 : cw = false := by rw [← hcw]; exact HX.out way (.inl hlo)
      subst hc0
      clear hcw
      go_wp2_with (go_at_call 11; refine (alive_any _).mono ?_; rintro e w' ⟨rfl, rfl⟩)
      go_ret
      exact ⟨rfl, hB4⟩
    have hlo' : 0 ≤ way := by omega
    clear hlo
    by_cases hhi : 16 ≤ way
    · have hc0 : cw = false := by rw [← hcw]; exact HX.out way (.inr (by omega))
      subst hc0
      clear hcw
      go_wp2_with (go_at_call 11; refine (alive_any _).mono ?_; rintro e w' ⟨rfl, rfl⟩)
      go_ret
      exact ⟨rfl, hB4⟩
    have hhi' : way < 16 := by omega
    clear hhi hcw
    obtain ⟨h1, h2, h3, h0⟩ := HB.out rfl
    have C1 := Lib.hid fun W => CI.out 1 W
    have C2 := Lib.hid fun W => CI.out 2 W
    have C3 := Lib.hid fun W => CI.out 3 W
    have C0 := Lib.hid fun W => CI.out 0 W
    rw [h1] at C1
    rw [h2] at C2
    rw [h0] at C0
    clear h1 h2 h0
    go_wp2_with fail
    refine (CN.out _).mono ?_
    rintro e w5 ⟨rfl, rfl⟩
    cases nb with
    | false =>
      clear h3
      go_wp2_with fail
      refine (C1.out _).mono ?_
      rintro e w6 ⟨rfl, b6⟩
      have hB6 := below_own hB4 b6 hB4.size
      go_wp2_with fail
      refine (C2.out _).mono ?_
      rintro e w7 ⟨rfl, b7⟩
      have hB7 := below_own hB6 b7 hB6.size
      go_wp2_with fail
      refine (C0.out _).mono ?_
      rintro e w8 ⟨rfl, b8⟩
      have hB8 := below_own hB7 b8 hB7.size
      go_wp2_with fail
      go_ret
      exact ⟨rfl, hB8⟩
    | true =>
      rw [h3 rfl] at C3
      clear h3
      go_wp2_with fail
      refine (C1.out _).mono ?_
      rintro e w6 ⟨rfl, b6⟩
      have hB6 := below_own hB4 b6 hB4.size
      go_wp2_with fail
      refine (C2.out _).mono ?_
      rintro e w7 ⟨rfl, b7⟩
      have hB7 := below_own hB6 b7 hB6.size
      go_wp2_with fail
      refine (C3.out _).mono ?_
      rintro e w8 ⟨rfl, b8⟩
      have hB8 := below_own hB7 b8 hB7.size
      go_wp2_with fail
      refine (C0.out _).mono ?_
      rintro e w9 ⟨rfl, b9⟩
      have hB9 := below_own hB8 b9 hB8.size
      go_wp2_with fail
      go_ret
      exact ⟨rfl, hB9⟩
end Go.Proofs.YtfhefngpeknhlabDoor
