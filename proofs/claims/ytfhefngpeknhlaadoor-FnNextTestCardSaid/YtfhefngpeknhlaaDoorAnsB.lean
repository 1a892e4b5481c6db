/- The walks of AnsweredBy, of the program (a copy of the list) and of the reference. -/
import Derived.Test.YtfhefngpeknhlaaDoorExp2
import Derived.Deep.AppendLies
namespace Go.Proofs.YtfhefngpeknhlaaDoor
set_option linter.unusedVariables false
set_option linter.unusedSimpArgs false
open Go.RowKit

/-- Exercises with the answers of a way. -/
def abS (S : Nat → Nat → ByteArray) (way : Int) : Nat → Nat → ByteArray := fun i j => if j = 2 then tkS (S i 0).data.toList (S i 1).data.toList way else S i j
def abN (S : Nat → Nat → ByteArray) (n : Nat) (way : Int) : Nat := if tokB S n = true ∧ 0 ≤ way ∧ way ≤ 15 then n else 0
theorem abN_le (S : Nat → Nat → ByteArray) (n : Nat) (way : Int) : abN S n way ≤ n := by unfold abN; split <;> omega
theorem abS_size (S : Nat → Nat → ByteArray) (way : Int) (m : Nat) (hm : 9 ≤ m) (i j : Nat) (h : (S i j).size ≤ m) : (abS S way i j).size ≤ m := by
  unfold abS
  split
  · exact Nat.le_trans (plS_size _) hm
  · exact h
def TestsP (n : Nat) (F : Nat → Nat → ByteArray) (w : World) (e : Ending) (w' : World) : Prop := ∃ v, e = .returned v ∧ Own w' w.heap.size 31 3 v n (recCells 3 (SV F) n) ∧ Below w.heap.size w w'
/-- The same, the row's whole block known. -/
def TestsR (n : Nat) (F : Nat → Nat → ByteArray) (w : World) (e : Ending) (w' : World) : Prop := ∃ v, e = .returned v ∧ w'.ownsRow w.heap.size 31 3 v n (recCells 3 (SV F) n) ∧ Below w.heap.size w w'
theorem recCells3_succ (F : Nat → Nat → ByteArray) (n : Nat) : recCells 3 (SV F) (n + 1) = recCells 3 (SV F) n ++ [.string (F n 0), .string (F n 1), .string (F n 2)] := by
  rw [recCells_succ]; rfl
theorem abS_cells (S : Nat → Nat → ByteArray) (way : Int) (n : Nat) : recCells 3 (SV (abS S way)) (n + 1) = recCells 3 (SV (abS S way)) n ++ [.string (S n 0), .string (S n 1), .string (tkS (S n 0).data.toList (S n 1).data.toList way)] := recCells3_succ _ _

set_option maxRecDepth 20000 in
set_option maxHeartbeats 8000000 in
theorem sAnswered (w : World) (B : Nat) (v : Value) (n : Nat) (S : Nat → Nat → ByteArray) (way : Int) (hR : Recs w B v n 3 (SV S)) (hBw : B ≤ w.heap.size) (hS : ∀ i, i < n → ∀ j, j < 3 → (S i j).size ≤ maxLen) :
    Calls Tryd.prog 18 #[v, .int .i64 way] w (TestsR (abN S n way) (abS S way) w) := by
  have hnew := owns_new w w.heap.size 31 3 0 #[] (Nat.le_refl _) (by decide) rfl
  have hbel := (Below.refl w.heap.size w).alloc (Nat.le_refl _) (.cells #[] 31)
  by_cases hz : n = 0
  · subst hz
    have e0 : abN S 0 way = 0 := by have := abN_le S 0 way; omega
    rw [e0]
    obtain ⟨A, cap, rfl, hnc, hcm, hcell⟩ := hR
    unfold maxLen at hcm
    clear hcell hS e0
    go_enter Tryd.func18, Tryd.ntmps18
    go_wp2_with fail
    refine wp_loop_rounds 1 ?_
    rw [rounds_succ]
    go_wp2_with fail
    go_ret
    exact ⟨_, rfl, by rw [recCells_zero]; exact hnew, hbel⟩
  have hz' : 0 < n := by omega
  clear hz
  have HT := Lib.hid fun W hRw hBW => sTestsOk W B v n S hRw hBW hS
  cases hk : tokB S n with
  | false =>
    have e0 : abN S n way = 0 := if_neg fun h => by rw [hk] at h; exact absurd h.1 (by decide)
    rw [e0]
    rw [hk] at HT
    have HR := Lib.hid (hR.below hbel hBw)
    obtain ⟨A, cap, rfl, hnc, hcm, hcell⟩ := hR
    unfold maxLen at hcm
    have hsz : B ≤ (w.alloc (.cells #[] 31)).heap.size := by simp; omega
    clear hcell hS e0 hk
    go_enter Tryd.func18, Tryd.ntmps18
    go_wp2_with fail
    refine wp_loop_rounds 1 ?_
    rw [rounds_succ]
    go_wp2_with fail
    refine (HT.out _ HR.out hsz).mono ?_
    rintro e w1 ⟨rfl, b1⟩
    go_wp2_with fail
    go_ret
    exact ⟨_, rfl, by rw [recCells_zero]; exact own_below hnew b1, below_own hbel b1 hbel.size⟩
  | true =>
    rw [hk] at HT
    by_cases hw : 0 ≤ way ∧ way ≤ 15
    rotate_left
    · have e0 : abN S n way = 0 := if_neg fun h => hw h.2
      rw [e0]
      have HR := Lib.hid (hR.below hbel hBw)
      obtain ⟨A, cap, rfl, hnc, hcm, hcell⟩ := hR
      unfold maxLen at hcm
      have hsz : B ≤ (w.alloc (.cells #[] 31)).heap.size := by simp; omega
      have hw' : way < 0 ∨ 15 < way := by omega
      clear hcell hS e0 hk hw
      go_enter Tryd.func18, Tryd.ntmps18
      go_wp2_with fail
      refine wp_loop_rounds 1 ?_
      rw [rounds_succ]
      go_wp2_with fail
      refine (HT.out _ HR.out hsz).mono ?_
      rintro e w1 ⟨rfl, b1⟩
      go_wp2_with (first | (go_at_call 58; ((with_reducible refine (sin_f _ _ _ _ ?_).mono ?_)); (omega); rintro e w' ⟨rfl, rfl⟩))
      go_ret
      exact ⟨_, rfl, by rw [recCells_zero]; exact own_below hnew b1, below_own hbel b1 hbel.size⟩
    have e0 : abN S n way = n := if_pos ⟨hk, hw⟩
    rw [e0]
    obtain ⟨h0, h1⟩ := hw
    have HTk := Lib.hid fun k (hlt : k < n) W => sTakenBy (S k 0) (S k 1) way (hS k hlt 0 (by omega)) (hS k hlt 1 (by omega)) W
    have HPk := Lib.hid fun k (hlt : k < n) => show pkS (S k 0).data.toList (S k 1).data.toList way = tkS (S k 0).data.toList (S k 1).data.toList way ∧ pairB (S k 0).data.toList (S k 1).data.toList way = true by
      have h3 : takB (S k 0).data.toList (S k 1).data.toList = true := tokB_at hk hlt
      have h4 : pairB (S k 0).data.toList (S k 1).data.toList way = true := by simp [pairB, h3, h0, h1]
      exact ⟨by unfold pkS; rw [if_pos h4], h4⟩
    have hn6 := tokB_len hk
    have HC := Lib.hid fun k => abS_cells S way k
    have HR := Lib.hid hR
    obtain ⟨i0, hi, hz0, hz1, hz2⟩ := info_parts infoTest
    obtain ⟨A, cap, rfl, hnc, hcm, hcell⟩ := hR
    unfold maxLen at hcm
    have Hc := Lib.hid hcell
    clear hcell hS e0 hk hnew
    go_enter Tryd.func18, Tryd.ntmps18
    go_wp2_with fail
    go_loopg [5, 6, 7, 8] n (fun g s5 s6 s7 s8 wr => ∃ k : Nat, g + k = n ∧ s6 = .int .i64 k ∧ wr.ownsRow w.heap.size 31 3 s5 k (recCells 3 (SV (abS S way)) k) ∧ Below w.heap.size w wr)
    case atStart => exact ⟨0, rfl, rfl, by rw [recCells_zero]; exact owns_new w w.heap.size 31 3 0 #[] (Nat.le_refl _) (by decide) rfl, hbel⟩
    case round =>
      obtain ⟨k, hk, rfl, hown0, hB0⟩ := hrel
      by_cases hlt : k < n
      · have HRr := Lib.hid (HR.out.below hB0 hBw)
        have HB0 := Lib.hid hB0
        have HO0 := Lib.hid hown0
        clear hB0 hown0
        go_wp2_with fail
        refine (HT.out _ HRr.out (by have := HB0.out.size; omega)).mono ?_
        rintro e w1 ⟨rfl, q1⟩
        have hown := own_below HO0.out q1
        have hB := below_own HB0.out q1 HB0.out.size
        clear q1 HRr HB0 HO0
        obtain ⟨b, o, rfl, hb, hc⟩ := Hc.out (by omega)
        have hbw : b < w.heap.size := by omega
        have e0 := (hB.cell (p := ⟨b, o + k * 3, none⟩) hbw).trans (hc k hlt 0 (by omega))
        have e1 := (hB.cell (p := ⟨b, o + k * 3 + 1, none⟩) hbw).trans (hc k hlt 1 (by omega))
        simp only [SV] at e0 e1
        have HK := Lib.hid (HTk.out k hlt)
        rw [(HPk.out k hlt).1, (HPk.out k hlt).2] at HK
        have HX := Lib.hid (HC.out k)
        have i1 : (k : Int) < (n : Int) := by omega
        have w1' : b < w1.heap.size := by have := hB.size; omega
        have HOwn := Lib.hid hown
        have HB := Lib.hid hB
        clear hc hown hB
        generalize hx : tkS (S k 0).data.toList (S k 1).data.toList way = x at *
        generalize S k 0 = q0 at *
        generalize S k 1 = q1 at *
        clear hx
        go_wp2_with (first | (go_at_call 58; ((with_reducible refine (sin_t _ _ _ _ ?_ ?_).mono ?_)); (omega); (omega); rintro e w' ⟨rfl, rfl⟩))
        go_region_held3 (fun w' => w'.cell? ⟨b, o + k * 3, none⟩ = some (.string q0) ∧ w'.cell? ⟨b, o + k * 3 + 1, none⟩ = some (.string q1))
          (go_keep)
          (first | (go_at_call 59; refine (HK.out _).mono ?_; rintro e w2 ⟨rfl, q2⟩; have g0 := (q2.cell (p := ⟨b, o + k * 3, none⟩) w1').trans e0; have g1 := (q2.cell (p := ⟨b, o + k * 3 + 1, none⟩) w1').trans e1))
        have HB2 : Hid (Below w.heap.size w w2) := Lib.hid (by first | exact below_own HB.out q2 HB.out.size | exact below_own HB.out.drew q2 HB.out.size)
        have hown2 : w2.ownsRow w.heap.size 31 3 u5 k (recCells 3 (SV (abS S way)) k) := by first | exact own_below HOwn.out q2 | exact own_below HOwn.out.drew q2
        have hs2 := HB2.out.size
        clear HB HOwn q2 e0 e1
        go_wp2_with fail
        go_region_held3 (fun w' => w'.cell? ⟨b, o + k * 3, none⟩ = some (.string q0) ∧ w'.cell? ⟨b, o + k * 3 + 1, none⟩ = some (.string q1)) (go_keep)
          ((refine step_append_lies _ (by rfl) _ _ 23 (by rfl) w.heap.size 31 i0 _ 3 48 Tryd.underlying23 hi hz0 hz1 hz2 rfl (by decide) u5 k (recCells 3 (SV (abS S way)) k) (by rfl) ((hown2.alloc _).drew) ⟨w2.heap.size, 0, none⟩ 1 1 [.string q0, .string q1, .string x] (by rfl) (by rfl) (World.news_of_block (cs := #[.string q0, .string q1, .string x]) (t := 31) (fr := (0, 0)) (heap_alloc_new w2 _)) (by simp [Value.oneCell']) (by omega) (by unfold maxLen; omega) (by omega) (by have := HB2.out.size; simp; omega) (w2.heap.size + 1) (by simp) ?_; intro gg cap w3 hown' hgrow hat hlt'; have k0 : w3.cell? ⟨b, o + k * 3, none⟩ = some (.string q0) := (World.grownBy.cell_far hgrow ⟨b, o + k * 3, none⟩ (by simp; omega) (fun e => by have := (hown2.lt b e.symm).1; omega)).trans ((World.cell?_alloc_past _ _ _ (by omega)).trans g0); have k1 : w3.cell? ⟨b, o + k * 3 + 1, none⟩ = some (.string q1) := (World.grownBy.cell_far hgrow ⟨b, o + k * 3 + 1, none⟩ (by simp; omega) (fun e => by have := (hown2.lt b e.symm).1; omega)).trans ((World.cell?_alloc_past _ _ _ (by omega)).trans g1)))
        go_wp2_with fail
        have hb1 := ((HB2.out.alloc HB2.out.size _).drew).grown hgrow (by have := HB2.out.size; simp; omega) (fun j hj => (hown2.lt j hj).1)
        go_roundg (gk - 1)
        case measure => omega
        case rel => exact ⟨k + 1, by omega, by go_num, by rw [HX.out]; exact hown', hb1⟩
      · obtain rfl : k = n := by omega
        go_wp2_with fail
        go_ret
        exact ⟨_, rfl, hown0, hB0⟩
end Go.Proofs.YtfhefngpeknhlaaDoor
