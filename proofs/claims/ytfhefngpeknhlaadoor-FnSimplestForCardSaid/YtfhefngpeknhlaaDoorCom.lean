/- The walks of ComesRight, of the program and of the reference; its exact law. -/
import Derived.Test.YtfhefngpeknhlaaDoorDif
namespace Go.Proofs.YtfhefngpeknhlaaDoor
set_option linter.unusedVariables false
set_option linter.unusedSimpArgs false
open Go.RowKit

set_option maxRecDepth 20000 in
set_option maxHeartbeats 2000000 in
theorem sDifference_no (s t : ByteArray) (hs : s.size ≤ maxLen) (ht : t.size ≤ maxLen) (hk : takB s.data.toList t.data.toList = false) (w : World) :
    Calls Tryd.prog 79 #[.string s, .string t] w fun e w' => e = .returned (.tuple #[.string ⟨#[]⟩, .bool false]) ∧ Below w.heap.size w w' := by
  have HO := Lib.hid fun W => sOrder s t hs ht W
  have hx : ordI s.data.toList t.data.toList < 0 := by simpa [takB] using hk
  have hT : ∀ W : World, Calls Tryd.prog 107 #[.string s, .string t] W fun e w' => e = .returned (.slice (some ⟨W.heap.size, 0, none⟩) 0 0) ∧ Below W.heap.size W w' := by
    intro W
    clear hs ht hk
    generalize ordI s.data.toList t.data.toList = x at *
    have hbel := (Below.refl W.heap.size W).alloc (Nat.le_refl _) (.cells #[] 117)
    go_enter Tryd.func107, Tryd.ntmps107
    go_wp2_with fail
    refine (HO.out _).mono ?_
    rintro e w1 ⟨rfl, b1⟩
    have hB1 := below_own hbel b1 hbel.size
    go_wp2_with fail
    go_ret
    exact ⟨rfl, hB1⟩
  have hL : ∀ (W : World) (A : Option Addr), Calls Tryd.prog 106 #[.slice A 0 0] W fun e w' => e = .returned (.tuple #[.string ⟨#[]⟩, .bool false]) ∧ W = w' := by
    intro W A
    clear hs ht hk hT HO hx
    go_enter Tryd.func106, Tryd.ntmps106
    go_wp2_with fail
    go_ret2
    exact ⟨rfl, rfl⟩
  have HT := Lib.hid hT
  have HL := Lib.hid hL
  clear hT hL HO hx hs ht hk
  go_enter Tryd.func79, Tryd.ntmps79
  go_wp2_with fail
  refine (HT.out _).mono ?_
  rintro e w1 ⟨rfl, b1⟩
  go_wp2_with fail
  refine (HL.out _ _).mono ?_
  rintro e w2 ⟨rfl, rfl⟩
  go_wp2_with fail
  go_ret2
  exact ⟨rfl, b1⟩

theorem str_ne {x y : ByteArray} (h : ¬ y = x) : (y.toList == x.toList) = false := by
  rw [beq_eq_false_iff_ne, Lib.toList_data, Lib.toList_data]
  intro e
  exact h (by rw [← bStr_of y, e, bStr_of])
def comB (s t : List UInt8) (way : Int) : Bool := pairB s t way && decide (tkS s t way = tkS s t 0)

set_option maxRecDepth 20000 in
set_option maxHeartbeats 2000000 in
theorem iComes (s t : ByteArray) (way : Int) (hs : s.size ≤ maxLen) (ht : t.size ≤ maxLen) (w : World) :
    Calls Tryd.prog 45 #[.string s, .string t, .int .i64 way] w fun e w' => e = .returned (.bool (comB s.data.toList t.data.toList way)) ∧ Below w.heap.size w w' := by
  have HT := Lib.hid fun W => takes_any s t hs ht W
  cases hk : takB s.data.toList t.data.toList with
  | false =>
    have H1 := Lib.hid (show comB s.data.toList t.data.toList way = false by simp [comB, pairB, hk])
    rw [hk] at HT
    clear hk hs ht
    go_enter Tryd.func45, Tryd.ntmps45
    go_wp2_with fail
    refine (HT.out _).mono ?_
    rintro e w1 ⟨rfl, rfl⟩
    go_wp2_with fail
    go_ret
    exact ⟨by rw [H1.out]; rfl, Below.refl _ _⟩
  | true =>
    by_cases hw : 0 ≤ way ∧ way ≤ 15
    · have hp : pairB s.data.toList t.data.toList way = true := by simp [pairB, hk, hw]
      have hn := takB_num hk
      obtain ⟨h0, h1⟩ := hw
      have HB := Lib.hid fun W => takenBy_any s t way hs ht hn.1 hn.2 h0 h1 W
      have HB0 := Lib.hid fun W => takenBy_any s t 0 hs ht hn.1 hn.2 (by decide) (by decide) W
      rw [hk] at HT
      by_cases he : tkS s.data.toList t.data.toList way = tkS s.data.toList t.data.toList 0
      · have H1 := Lib.hid (show comB s.data.toList t.data.toList way = true by simp [comB, hp, he])
        rw [he] at HB
        clear hk hs ht hn hp he
        generalize tkS s.data.toList t.data.toList 0 = x at *
        go_enter Tryd.func45, Tryd.ntmps45
        go_wp2_with fail
        refine (HT.out _).mono ?_
        rintro e w1 ⟨rfl, rfl⟩
        go_wp2_with fail
        refine (isWay_t _ _ h0 h1).mono ?_
        rintro e w1 ⟨rfl, rfl⟩
        go_wp2_with fail
        refine (HB.out _).mono ?_
        rintro e w1 ⟨rfl, b1⟩
        go_wp2_with fail
        refine (HB0.out _).mono ?_
        rintro e w2 ⟨rfl, b2⟩
        have hB2 := below_own b1 b2 b1.size
        go_wp2_with fail
        go_ret
        exact ⟨by rw [H1.out]; rfl, hB2⟩
      · have H1 := Lib.hid (show comB s.data.toList t.data.toList way = false by simp [comB, he])
        clear hk hs ht hn hp
        generalize tkS s.data.toList t.data.toList 0 = x at *
        generalize tkS s.data.toList t.data.toList way = y at *
        go_enter Tryd.func45, Tryd.ntmps45
        go_wp2_with fail
        refine (HT.out _).mono ?_
        rintro e w1 ⟨rfl, rfl⟩
        go_wp2_with fail
        refine (isWay_t _ _ h0 h1).mono ?_
        rintro e w1 ⟨rfl, rfl⟩
        go_wp2_with fail
        refine (HB.out _).mono ?_
        rintro e w1 ⟨rfl, b1⟩
        go_wp2_with fail
        refine (HB0.out _).mono ?_
        rintro e w2 ⟨rfl, b2⟩
        have hB2 := below_own b1 b2 b1.size
        go_wp2_with fail
        go_ret
        exact ⟨by rw [H1.out]; first | rfl | exact congrArg (fun b => Ending.returned (.bool b)) (str_ne he), hB2⟩
    · have H1 := Lib.hid (show comB s.data.toList t.data.toList way = false by simp [comB, pairB, hw])
      have hw' : way < 0 ∨ 15 < way := by omega
      rw [hk] at HT
      clear hk hs ht hw
      go_enter Tryd.func45, Tryd.ntmps45
      go_wp2_with fail
      refine (HT.out _).mono ?_
      rintro e w1 ⟨rfl, rfl⟩
      go_wp2_with fail
      refine (isWay_f _ _ hw').mono ?_
      rintro e w1 ⟨rfl, rfl⟩
      go_wp2_with fail
      go_ret
      exact ⟨by rw [H1.out]; rfl, Below.refl _ _⟩

set_option maxRecDepth 20000 in
set_option maxHeartbeats 2000000 in
theorem sComes (s t : ByteArray) (way : Int) (hs : s.size ≤ maxLen) (ht : t.size ≤ maxLen) (w : World) :
    Calls Tryd.prog 74 #[.string s, .string t, .int .i64 way] w fun e w' => e = .returned (.bool (comB s.data.toList t.data.toList way)) ∧ Below w.heap.size w w' := by
  have HT := Lib.hid fun W => sTakenBy s t way hs ht W
  cases hp : pairB s.data.toList t.data.toList way with
  | false =>
    have H1 := Lib.hid (show comB s.data.toList t.data.toList way = false by simp [comB, hp])
    rw [hp] at HT
    cases hk : takB s.data.toList t.data.toList with
    | false =>
      have HD := Lib.hid fun W => sDifference_no s t hs ht hk W
      clear hk hs ht hp
      generalize pkS s.data.toList t.data.toList way = z at *
      go_enter Tryd.func74, Tryd.ntmps74
      go_wp2_with fail
      refine (HT.out _).mono ?_
      rintro e w1 ⟨rfl, b1⟩
      go_wp2_with fail
      refine (HD.out _).mono ?_
      rintro e w2 ⟨rfl, b2⟩
      have hB2 := below_own b1 b2 b1.size
      go_wp2_with fail
      go_ret
      exact ⟨by rw [H1.out]; rfl, hB2⟩
    | true =>
      have HD := Lib.hid fun W => sDifference s t hs ht hk W
      clear hk hs ht hp
      generalize pkS s.data.toList t.data.toList way = z at *
      generalize tkS s.data.toList t.data.toList 0 = x at *
      go_enter Tryd.func74, Tryd.ntmps74
      go_wp2_with fail
      refine (HT.out _).mono ?_
      rintro e w1 ⟨rfl, b1⟩
      go_wp2_with fail
      refine (HD.out _).mono ?_
      rintro e w2 ⟨rfl, b2⟩
      have hB2 := below_own b1 b2 b1.size
      go_wp2_with fail
      go_ret
      exact ⟨by rw [H1.out]; rfl, hB2⟩
  | true =>
    have hk : takB s.data.toList t.data.toList = true := by
      simp only [pairB, Bool.and_eq_true] at hp; exact hp.1
    have HD := Lib.hid fun W => sDifference s t hs ht hk W
    have hz : pkS s.data.toList t.data.toList way = tkS s.data.toList t.data.toList way := by unfold pkS; rw [hp]; rfl
    rw [hp, hz] at HT
    by_cases he : tkS s.data.toList t.data.toList way = tkS s.data.toList t.data.toList 0
    · have H1 := Lib.hid (show comB s.data.toList t.data.toList way = true by simp [comB, hp, he])
      rw [he] at HT
      clear hk hs ht hp he hz
      generalize tkS s.data.toList t.data.toList 0 = x at *
      go_enter Tryd.func74, Tryd.ntmps74
      go_wp2_with fail
      refine (HT.out _).mono ?_
      rintro e w1 ⟨rfl, b1⟩
      go_wp2_with fail
      refine (HD.out _).mono ?_
      rintro e w2 ⟨rfl, b2⟩
      have hB2 := below_own b1 b2 b1.size
      go_wp2_with fail
      go_ret
      exact ⟨by rw [H1.out]; rfl, hB2⟩
    · have H1 := Lib.hid (show comB s.data.toList t.data.toList way = false by simp [comB, he])
      clear hk hs ht hp hz
      generalize tkS s.data.toList t.data.toList 0 = x at *
      generalize tkS s.data.toList t.data.toList way = y at *
      go_enter Tryd.func74, Tryd.ntmps74
      go_wp2_with fail
      refine (HT.out _).mono ?_
      rintro e w1 ⟨rfl, b1⟩
      go_wp2_with fail
      refine (HD.out _).mono ?_
      rintro e w2 ⟨rfl, b2⟩
      have hB2 := below_own b1 b2 b1.size
      go_wp2_with fail
      go_ret
      exact ⟨by rw [H1.out]; first | rfl | exact congrArg (fun b => Ending.returned (.bool b)) (str_ne he), hB2⟩

end Go.Proofs.YtfhefngpeknhlaaDoor
