/- The law on PeriodOf: digits come again. -/
import Derived.Test.YtjhidenjlkdpeaaFracLaw
namespace Go.Proofs.Ytjhidenjlkdpeaa
set_option linter.unusedVariables false
set_option linter.unusedSimpArgs false
open Go.RowKit

def Draw2 (w : World) (e : Ending) (w' : World) : Prop := ∃ a b : Int, e = .returned (.tuple #[.int .i64 a, .int .i64 b]) ∧ Below w.heap.size w w'
theorem drawPeriod (A : Option Addr) (len cap : Nat) (w : World) (hc : CodeIn w A len cap) : Calls Try.prog 34 #[.slice A len cap] w (Draw2 w) := by
  go_enter Try.func34, Try.ntmps34
  go_wp2_with fail
  refine (drawFraction A len cap _ hc).mono ?_
  rintro e w1 ⟨a, b, c, rfl, hB⟩
  go_wp2_with fail
  go_ret2
  exact ⟨_, _, rfl, hB⟩

set_option maxHeartbeats 2000000 in
/-- The law on PeriodOf. -/
theorem law_PeriodOf (A : Option Addr) (len cap : Nat) (w : World) (hc : CodeIn w A len cap) :
    Calls Try.prog 9 #[.slice A len cap] w fun e w' => e = .returned (.bool true) ∧ Below w.heap.size w w' := by
  have hlc := hc.1
  have hcm := hc.2.1
  unfold maxLen at hcm
  by_cases hbig : 1048576 < len
  · go_enter Try.func9, Try.ntmps9
    go_wp2_with fail
    go_ret
    exact ⟨rfl, Below.refl _ _⟩
  have hbig' : len ≤ 1048576 := by omega
  clear hbig
  go_enter Try.func9, Try.ntmps9
  go_wp2_with fail
  refine (drawPeriod A len cap _ hc).mono ?_
  rintro e w1 ⟨a, b, rfl, b1⟩
  by_cases h : 1 ≤ b ∧ b ≤ 99 ∧ 0 ≤ a ∧ a ≤ b - 1
  · obtain ⟨h1, h2, h3, h4⟩ := h
    go_wp2_with fail
    refine (iPeriod_yes a b _ h1 h2 h3 h4).mono ?_
    rintro e w2 ⟨p, n, hp, rfl, b2⟩
    go_wp2_with fail
    refine (sPeriod_yes a b _ h1 h2 h3 h4).mono ?_
    rintro e w3 ⟨p', n', hp', rfl, b3⟩
    obtain ⟨rfl, rfl⟩ := hp.unique hp'
    clear hp'
    have hle := hp.le h3 (show a < b by omega)
    have hn1 := hp.1
    have HP := Lib.hid hp
    clear hp
    go_wp2_with fail
    refine (iFrac_yes a b 20 _ h1 h2 h3 h4 (by omega)).mono ?_
    rintro e w4 ⟨v, rfl, o4, b4⟩
    have hB : Below w.heap.size w w4 := below_own (below_own (below_own b1 b2 b1.size) b3 (by have := b1.size; have := b2.size; omega)) b4 (by have := b1.size; have := b2.size; have := b3.size; omega)
    obtain ⟨A1, c1, rfl, l1, m1, r1⟩ := IntSl.of_own o4
    have hcell : ∃ b' o, A1 = some ⟨b', o, none⟩ ∧ ∀ j, j < 20 → w4.cell? ⟨b', o + j, none⟩ = some (.int .i64 (10 * rm a b j / b)) := by
      obtain ⟨b', o, e, _, hc⟩ := r1 (by rw [fds_length]; omega)
      refine ⟨b', o, e, fun j hj => ?_⟩
      rw [hc j (by rw [fds_length]; omega)]
      exact congrArg some (congrArg (Value.int .i64) (fds_at a b hj))
    obtain ⟨b', o, rfl, hcs⟩ := hcell
    rw [fds_length] at l1
    unfold maxLen at m1
    clear r1 o4 b1 b2 b3 b4
    have e20 : (fds a b 20).length = 20 := fds_length a b 20
    go_wp2_with fail
    have Hcs := Lib.hid hcs
    clear hcs
    go_loopg [10] 300 (fun g s10 wr => ∃ k q : Nat, g + k = 300 + p ∧ p ≤ k ∧ k ≤ p + 20 ∧ s10 = .int .i64 k ∧ wr = w4.drewN q)
    case atStart => exact ⟨p, 0, by omega, by omega, by omega, rfl, rfl⟩
    case round =>
      obtain ⟨k, q, hg, hk, hk2, rfl, rfl⟩ := hrel
      by_cases hlt : k + n < 20
      · have e1 := Hcs.out k (by omega)
        have e2 := Hcs.out (k + n) hlt
        rw [← HP.out.again k hk] at e2
        generalize 10 * rm a b k / b = D at e1 e2
        have i1 : (k : Int) < 20 := by omega
        have i2 : (k : Int) + (n : Int) < 20 := by omega
        have i3 : (0 : Int) ≤ (k : Int) + (n : Int) := by omega
        have k1 : IntKind.i64.wrap ((k : Int) + (n : Int)) = (k : Int) + (n : Int) := IntWalk.i64_in _ (by omega)
        have k2 : ((k : Int) + (n : Int)).toNat = k + n := by omega
        go_wp2_with fail
        go_quiet (fail)
        clear k1 k2
        go_wp2
        go_roundg (gk - 1)
        case measure => omega
        case rel => exact ⟨k + 1, _, by omega, by omega, by omega, by go_num, rfl⟩
      · have hlt' : 20 ≤ k + n := by omega
        clear hlt
        have e21 : (((20 : Nat) : Int) == 20) = true := rfl
        go_wp2_with fail
        go_ret
        exact ⟨rfl, below_drewN hB _⟩
  · have h' : b < 1 ∨ 99 < b ∨ a < 0 ∨ b - 1 < a := by omega
    clear h
    go_wp2_with fail
    refine (iPeriod_no a b _ h').mono ?_
    rintro e w2 ⟨rfl, rfl⟩
    go_wp2_with fail
    refine (sPeriod_no a b _ h').mono ?_
    rintro e w2 ⟨rfl, rfl⟩
    go_wp2_with (go_at_call 28; refine (alive_any _).mono ?_; rintro e w' ⟨rfl, rfl⟩)
    go_ret
    exact ⟨rfl, b1⟩
end Go.Proofs.Ytjhidenjlkdpeaa
