/- The law on FaultsIn: with one fault more it is one more. -/
import Derived.Test.YtjhidenjlkdpeaaFaults
import Derived.Test.YtjhidenjlkdpeaaDraw
import Derived.Test.YtjhidenjlkdpeaaNumW
namespace Go.Proofs.Ytjhidenjlkdpeaa
set_option linter.unusedVariables false
set_option linter.unusedSimpArgs false
open Go.RowKit

def Draw1 (w : World) (e : Ending) (w' : World) : Prop := ∃ a : Int, e = .returned (.int .i64 a) ∧ Below w.heap.size w w'
theorem drawFaults (A : Option Addr) (len cap : Nat) (w : World) (hc : CodeIn w A len cap) : Calls Try.prog 35 #[.slice A len cap] w (Draw1 w) := by
  go_enter Try.func35, Try.ntmps35
  go_wp2_with fail
  refine (open_any A len cap _ hc).mono ?_
  rintro e w0 ⟨rfl, hR0, hB0⟩
  go_wp2_with fail
  refine (pick_any _ _ _ _ hR0 (by omega)).mono ?_
  rintro e w1 ⟨x1, rfl, hx1, hz1, hR1, hg1⟩
  have hB1 := hB0.grown hg1 hB0.size (fun k hk => by cases hk; exact Nat.le_refl _)
  clear hR0 hB0 hg1
  obtain ⟨hx10, hx11⟩ := hx1 (by omega)
  clear hx1 hz1
  go_wp2_with fail
  go_ret
  exact ⟨_, rfl, hB1⟩

theorem fault_more (n f : Int) (h0 : 0 ≤ n) (h1 : n ≤ 15) (hf : f = 1 ∨ f = 2 ∨ f = 4 ∨ f = 8) (hz : n / f % 2 = 0) : FaultsOf (n + f) = FaultsOf n + 1 := by
  have hr : n + f ≤ 15 := by rcases hf with rfl | rfl | rfl | rfl <;> omega
  have hr0 : 0 ≤ n + f := by omega
  unfold FaultsOf
  rw [if_pos ⟨hr0, hr⟩, if_pos ⟨h0, h1⟩]
  unfold fc
  rcases hf with rfl | rfl | rfl | rfl <;> omega
theorem faults_range (n : Int) (h0 : 0 ≤ n) (h1 : n ≤ 15) : 0 ≤ FaultsOf n ∧ FaultsOf n ≤ 4 := by
  unfold FaultsOf
  rw [if_pos ⟨h0, h1⟩]
  unfold fc
  omega
theorem pow_four (k : Nat) (h : k < 4) : k = 0 ∨ k = 1 ∨ k = 2 ∨ k = 3 := by omega

set_option maxHeartbeats 2000000 in
/-- The law on FaultsIn. -/
theorem law_FaultsIn (A : Option Addr) (len cap : Nat) (w : World) (hc : CodeIn w A len cap) :
    Calls Try.prog 10 #[.slice A len cap] w fun e w' => e = .returned (.bool true) ∧ Below w.heap.size w w' := by
  have hlc := hc.1
  have hcm := hc.2.1
  unfold maxLen at hcm
  by_cases hbig : 1048576 < len
  · go_enter Try.func10, Try.ntmps10
    go_wp2_with fail
    go_ret
    exact ⟨rfl, Below.refl _ _⟩
  have hbig' : len ≤ 1048576 := by omega
  clear hbig
  go_enter Try.func10, Try.ntmps10
  go_wp2_with fail
  refine (drawFaults A len cap _ hc).mono ?_
  rintro e w1 ⟨n, rfl, b1⟩
  by_cases h : 0 ≤ n ∧ n ≤ 15
  · obtain ⟨h0, h1⟩ := h
    have hr := faults_range n h0 h1
    have HM := Lib.hid (fault_more n)
    have CI := Lib.hid fun x W => iFaults x W
    obtain ⟨c, hcc⟩ : ∃ c, FaultsOf n = c := ⟨_, rfl⟩
    have HC := Lib.hid hcc
    rw [hcc] at hr
    obtain ⟨r0, r1⟩ := hr
    clear hcc
    go_wp2_with fail
    refine (CI.out n _).mono ?_
    rw [HC.out]
    rintro e w' ⟨rfl, rfl⟩
    go_wp2_with fail
    refine (sFaults n _).mono ?_
    rw [HC.out]
    rintro e w' ⟨rfl, rfl⟩
    go_wp2_with fail
    go_loop [6, 27] (fun _ s27 => ∃ k : Nat, k ≤ 4 ∧ s27 = .int .i64 k) (fun _ s27 => 4 - (intOf s27).toNat)
    case atStart => exact ⟨0, by omega, rfl⟩
    case round =>
      obtain ⟨k, hk, rfl⟩ := hrel
      rcases (show k = 0 ∨ k = 1 ∨ k = 2 ∨ k = 3 ∨ k = 4 by omega) with rfl | rfl | rfl | rfl | rfl
      · by_cases hz : n % 2 = 0
        · have hb : (n % 2 == 0) = true := beq_iff_eq.2 hz
          have HZ := Lib.hid (HM.out 1 h0 h1 (by decide) (by simpa using hz))
          rw [HC.out] at HZ
          clear hz
          go_wp2_with (go_at_call 25; refine (CI.out (n + 1) _).mono ?_; rw [HZ.out]; rintro e w' ⟨rfl, rfl⟩)
          go_round
          case rel => exact ⟨1, by omega, rfl⟩
          case measure => simp [intOf]
        · have hb : (n % 2 == 0) = false := beq_eq_false_iff_ne.2 hz
          clear hz
          go_wp2_with fail
          go_round
          case rel => exact ⟨1, by omega, rfl⟩
          case measure => simp [intOf]
      · by_cases hz : n / 2 % 2 = 0
        · have hb : (n / 2 % 2 == 0) = true := beq_iff_eq.2 hz
          have HZ := Lib.hid (HM.out 2 h0 h1 (by decide) (by exact hz))
          rw [HC.out] at HZ
          clear hz
          go_wp2_with (go_at_call 25; refine (CI.out (n + 2) _).mono ?_; rw [HZ.out]; rintro e w' ⟨rfl, rfl⟩)
          go_round
          case rel => exact ⟨2, by omega, rfl⟩
          case measure => simp [intOf]
        · have hb : (n / 2 % 2 == 0) = false := beq_eq_false_iff_ne.2 hz
          clear hz
          go_wp2_with fail
          go_round
          case rel => exact ⟨2, by omega, rfl⟩
          case measure => simp [intOf]
      · by_cases hz : n / 4 % 2 = 0
        · have hb : (n / 4 % 2 == 0) = true := beq_iff_eq.2 hz
          have HZ := Lib.hid (HM.out 4 h0 h1 (by decide) (by exact hz))
          rw [HC.out] at HZ
          clear hz
          go_wp2_with (go_at_call 25; refine (CI.out (n + 4) _).mono ?_; rw [HZ.out]; rintro e w' ⟨rfl, rfl⟩)
          go_round
          case rel => exact ⟨3, by omega, rfl⟩
          case measure => simp [intOf]
        · have hb : (n / 4 % 2 == 0) = false := beq_eq_false_iff_ne.2 hz
          clear hz
          go_wp2_with fail
          go_round
          case rel => exact ⟨3, by omega, rfl⟩
          case measure => simp [intOf]
      · by_cases hz : n / 8 % 2 = 0
        · have hb : (n / 8 % 2 == 0) = true := beq_iff_eq.2 hz
          have HZ := Lib.hid (HM.out 8 h0 h1 (by decide) (by exact hz))
          rw [HC.out] at HZ
          clear hz
          go_wp2_with (go_at_call 25; refine (CI.out (n + 8) _).mono ?_; rw [HZ.out]; rintro e w' ⟨rfl, rfl⟩)
          go_round
          case rel => exact ⟨4, by omega, rfl⟩
          case measure => simp [intOf]
        · have hb : (n / 8 % 2 == 0) = false := beq_eq_false_iff_ne.2 hz
          clear hz
          go_wp2_with fail
          go_round
          case rel => exact ⟨4, by omega, rfl⟩
          case measure => simp [intOf]
      · go_wp2_with fail
        go_ret
        exact ⟨rfl, b1.alloc b1.size _⟩
  · have e : FaultsOf n = -1 := if_neg h
    have HC := Lib.hid e
    clear e h
    go_wp2_with fail
    refine (iFaults n _).mono ?_
    rw [HC.out]
    rintro e w' ⟨rfl, rfl⟩
    go_wp2_with fail
    refine (sFaults n _).mono ?_
    rw [HC.out]
    rintro e w' ⟨rfl, rfl⟩
    go_wp2_with (go_at_call 28; refine (alive_any _).mono ?_; rintro e w' ⟨rfl, rfl⟩)
    go_ret
    exact ⟨rfl, b1⟩
end Go.Proofs.Ytjhidenjlkdpeaa
