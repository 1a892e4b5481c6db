/- Plain facts on lists of exercises cut short; the draws of exercises and a way. -/
import Derived.Test.YtfhefngpeknhlaaDoorTts
namespace Go.Proofs.YtfhefngpeknhlaaDoor
set_option linter.unusedVariables false
set_option linter.unusedSimpArgs false
open Go.RowKit

theorem recs_tail {w : World} {B n cap : Nat} {A : Option Addr} {S : Nat → Nat → ByteArray} (h : Recs w B (.slice A n cap) n 3 (SV S)) (hn : 0 < n) :
    ∃ b o, A = some ⟨b, o, none⟩ ∧ Recs w B (.slice (some ⟨b, o + 3, none⟩) (n - 1) (cap - 1)) (n - 1) 3 (SV fun i => S (i + 1)) := by
  obtain ⟨A', cap', hv, hnc, hcm, hcell⟩ := h
  cases hv
  obtain ⟨b, o, rfl, hb, hc⟩ := hcell hn
  refine ⟨b, o, rfl, _, _, rfl, by omega, by omega, fun _ => ⟨b, o + 3, rfl, hb, fun i hi j hj => ?_⟩⟩
  have := hc (i + 1) (by omega) j hj
  rw [show o + (i + 1) * 3 + j = o + 3 + i * 3 + j by omega] at this
  exact this
theorem recs_head {w : World} {B n cap : Nat} {A : Option Addr} {S : Nat → Nat → ByteArray} (h : Recs w B (.slice A n cap) n 3 (SV S)) (m : Nat) (hm : m ≤ n) : Recs w B (.slice A m cap) m 3 (SV S) := by
  obtain ⟨A', cap', hv, hnc, hcm, hcell⟩ := h
  cases hv
  refine ⟨_, _, rfl, by omega, hcm, fun h0 => ?_⟩
  obtain ⟨b, o, rfl, hb, hc⟩ := hcell (by omega)
  exact ⟨b, o, rfl, hb, fun i hi j hj => hc i (by omega) j hj⟩
theorem tokB_tail {S : Nat → Nat → ByteArray} {n : Nat} (h : tokB S n = true) : tokB (fun i => S (i + 1)) (n - 1) = true := by
  have hl := tokB_len h
  exact tokB_good (by omega) fun j hj => tokB_at (i := j + 1) h (by omega)
theorem tokB_head {S : Nat → Nat → ByteArray} {n m : Nat} (h : tokB S n = true) (hm : m ≤ n) : tokB S m = true := by
  have hl := tokB_len h
  exact tokB_good (by omega) fun j hj => tokB_at h (by omega)
theorem tokB_zero (S : Nat → Nat → ByteArray) : tokB S 0 = true := tokB_good (by omega) fun j hj => by omega
theorem expB_all {S : Nat → Nat → ByteArray} {n : Nat} {way : Int} (h : expB S n way = true) : tokB S n = true ∧ 0 ≤ way ∧ way ≤ 15 ∧ ∀ j, j < n → expAt S way j = true := by
  simp only [expB, Bool.and_eq_true, decide_eq_true_eq, List.all_eq_true, List.mem_range] at h
  exact ⟨h.1, h.2.1.1, h.2.1.2, h.2.2⟩
theorem expB_tail {S : Nat → Nat → ByteArray} {n : Nat} {way : Int} (h : expB S n way = true) : expB (fun i => S (i + 1)) (n - 1) way = true := by
  obtain ⟨h1, h2, h3, h4⟩ := expB_all h
  exact expB_good (tokB_tail h1) h2 h3 fun j hj => h4 (j + 1) (by omega)
theorem expB_head {S : Nat → Nat → ByteArray} {n m : Nat} {way : Int} (h : expB S n way = true) (hm : m ≤ n) : expB S m way = true := by
  obtain ⟨h1, h2, h3, h4⟩ := expB_all h
  exact expB_good (tokB_head h1 hm) h2 h3 fun j hj => h4 j (by omega)
theorem expB_none {S : Nat → Nat → ByteArray} {n : Nat} {way : Int} (h : tokB S n = false) : expB S n way = false := by simp [expB, h]
theorem expB_out {S : Nat → Nat → ByteArray} {n : Nat} {way : Int} (h : way < 0 ∨ 15 < way) : expB S n way = false := by
  have : decide (0 ≤ way ∧ way ≤ 15) = false := by simp; omega
  simp [expB, this]
/-- Answered by a way: by it explained. -/
theorem tokB_ab (S : Nat → Nat → ByteArray) (way : Int) (n : Nat) : tokB (abS S way) n = tokB S n := rfl
theorem abN_ok {S : Nat → Nat → ByteArray} {n : Nat} {way : Int} (hk : tokB S n = true) (h0 : 0 ≤ way) (h1 : way ≤ 15) : abN S n way = n := if_pos ⟨hk, h0, h1⟩
theorem abN_no {S : Nat → Nat → ByteArray} {n : Nat} {way : Int} (h : tokB S n = false ∨ way < 0 ∨ 15 < way) : abN S n way = 0 := if_neg fun h' => by
  rcases h with h | h
  · rw [h] at h'; exact absurd h'.1 (by decide)
  · omega
theorem expB_ab {S : Nat → Nat → ByteArray} {n : Nat} {way : Int} (hk : tokB S n = true) (h0 : 0 ≤ way) (h1 : way ≤ 15) : expB (abS S way) n way = true :=
  expB_good (by rw [tokB_ab]; exact hk) h0 h1 fun j _ => by
    show decide (tkS (abS S way j 0).data.toList (abS S way j 1).data.toList way = abS S way j 2) = true
    exact decide_eq_true rfl

theorem own_apartO {w w' : World} {base : Nat} {e : TypeId} {sz : Nat} {v : Value} {n : Nat} {xs : List Value} {rb : Nat} (h : Own w base e sz v n xs) (hg : w.grownBy w' (some rb)) (hb : rb < base) : Own w' base e sz v n xs :=
  h.grown hg (by
    cases hv : v.ownBlock with
    | none => exact .inl rfl
    | some k => exact .inr fun e => by injection e with e; have := (h.lt k hv).1; omega)
def DrawTI (w : World) (e : Ending) (w' : World) : Prop := ∃ v n, ∃ S : Nat → Nat → ByteArray, ∃ way : Int, e = .returned (.tuple #[v, .int .i64 way]) ∧ n ≤ 7 ∧ (∀ i j, (S i j).size ≤ 110) ∧ -1 ≤ way ∧ way ≤ 16 ∧ Own w' w.heap.size 31 3 v n (recCells 3 (SV S) n) ∧ Below w.heap.size w w'
set_option maxRecDepth 20000 in
set_option maxHeartbeats 1000000 in
theorem draw_Explains (A : Option Addr) (len cap : Nat) (w : World) (hc : CodeIn w A len cap) : Calls Tryd.prog 53 #[.slice A len cap] w (DrawTI w) := by
  go_enter Tryd.func53, Tryd.ntmps53
  go_wp2_with fail
  refine (open_any A len cap _ hc).mono ?_
  rintro e w0 ⟨rfl, hR0, hB0⟩
  go_wp2_with fail
  refine (tests_any _ _ _ _ hR0 (by omega) (by omega) (by omega)).mono ?_
  rintro e w1 ⟨v, n, S, rfl, hn, hS, ho, p1, hp1, hR1, hg1⟩
  have hB1 := hB0.grown hg1 hB0.size (fun k hk => by cases hk; exact Nat.le_refl _)
  have hrb := hR0.lt
  have hsz := hB0.size
  clear hg1 hR0 hB0
  go_wp2_with fail
  refine (pick_any _ _ _ _ hR1 (by omega)).mono ?_
  rintro e w2 ⟨x, rfl, hx, hz, hR2, hg2⟩
  obtain ⟨hx0, hx1⟩ := hx (by omega)
  have hB2 := hB1.grown hg2 hB1.size (fun k hk => by cases hk; exact Nat.le_refl _)
  have ho2 := own_apartO ho hg2 hrb
  clear ho hg2 hR1 hB1 hx hz
  go_wp2_with fail
  refine (pick_any _ _ _ _ hR2 (by omega)).mono ?_
  rintro e w3 ⟨y, rfl, hy, hz, hR3, hg3⟩
  obtain ⟨hy0, hy1⟩ := hy (by omega)
  have hB3 := hB2.grown hg3 hB2.size (fun k hk => by cases hk; exact Nat.le_refl _)
  have ho3 := own_apartO ho2 hg3 hrb
  have hq : 0 ≤ y / 19 ∧ y / 19 ≤ 1 := by omega
  clear ho2 hg3 hR2 hB2 hy hz
  go_wp2_with fail
  go_ret2
  exact ⟨v, n, S, x - y / 19, rfl, hn, hS, by omega, by omega, Own.mono ho3 hsz, hB3⟩
end Go.Proofs.YtfhefngpeknhlaaDoor
