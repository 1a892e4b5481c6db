/- The law on FractionDigits: digits come near from below. -/
import Derived.Test.YtjhidenjlkdpeaaFrac
import Derived.Test.YtjhidenjlkdpeaaDraw
import Derived.Test.YtjhidenjlkdpeaaNumW
namespace Go.Proofs.Ytjhidenjlkdpeaa
set_option linter.unusedVariables false
set_option linter.unusedSimpArgs false
open Go.RowKit

/-- What k digits tell. -/
def tell (a b : Int) : Nat → Int
  | 0 => 0
  | k + 1 => 10 * tell a b k + 10 * rm a b k / b
/-- They come near from below: what is missing is what is left. -/
theorem tell_eq (a b : Int) (hb : 1 ≤ b) (k : Nat) : 10 ^ k * a = tell a b k * b + rm a b k := by
  induction k with
  | zero => simp [tell, rm]
  | succ k ih =>
    have h := Int.mul_ediv_add_emod (10 * rm a b k) b
    rw [rm_succ, tell, Int.pow_succ, Int.mul_assoc, Int.mul_left_comm, ih, Int.add_mul, Int.mul_add, Int.mul_assoc]
    rw [Int.mul_comm b] at h
    omega
theorem tell_range (a b : Int) (hb : 1 ≤ b) (h0 : 0 ≤ a) (h1 : a < b) (k : Nat) : 0 ≤ tell a b k ∧ tell a b k < 10 ^ k := by
  have hr := rm_range a b h0 h1
  induction k with
  | zero => simp [tell]
  | succ k ih =>
    have h2 := hr k
    have h3 : 0 ≤ 10 * rm a b k / b := Int.ediv_nonneg (by omega) (by omega)
    have h4 : 10 * rm a b k / b < 10 := Int.ediv_lt_of_lt_mul (by omega) (by omega)
    rw [tell, Int.pow_succ]
    omega
theorem digit_range (a b : Int) (hb : 1 ≤ b) (h0 : 0 ≤ a) (h1 : a < b) (k : Nat) : 0 ≤ 10 * rm a b k / b ∧ 10 * rm a b k / b ≤ 9 := by
  have h2 := rm_range a b h0 h1 k
  have h3 : 0 ≤ 10 * rm a b k / b := Int.ediv_nonneg (by omega) (by omega)
  have h4 : 10 * rm a b k / b < 10 := Int.ediv_lt_of_lt_mul (by omega) (by omega)
  omega
theorem fds_at (a b : Int) {m k : Nat} (h : k < m) : (fds a b m).getD k 0 = 10 * rm a b k / b := by simp [fds, List.getD_eq_getElem?_getD, h]

set_option maxHeartbeats 2000000 in
/-- The law on FractionDigits. -/
theorem law_FractionDigits (A : Option Addr) (len cap : Nat) (w : World) (hc : CodeIn w A len cap) :
    Calls Try.prog 7 #[.slice A len cap] w fun e w' => e = .returned (.bool true) ∧ Below w.heap.size w w' := by
  have hlc := hc.1
  have hcm := hc.2.1
  unfold maxLen at hcm
  by_cases hbig : 1048576 < len
  · go_enter Try.func7, Try.ntmps7
    go_wp2_with fail
    go_ret
    exact ⟨rfl, Below.refl _ _⟩
  have hbig' : len ≤ 1048576 := by omega
  clear hbig
  go_enter Try.func7, Try.ntmps7
  go_wp2_with fail
  refine (drawFraction A len cap _ hc).mono ?_
  rintro e w1 ⟨a, b, many, rfl, b1⟩
  have hFD : FD a b many = if 1 ≤ b ∧ b ≤ 99 ∧ 0 ≤ a ∧ a ≤ b - 1 ∧ 0 ≤ many ∧ many ≤ 20 then fds a b many.toNat else [] := rfl
  have HFD := Lib.hid hFD
  clear hFD
  have hlen := FD_length a b many
  have CS := Lib.hid fun W => sFrac a b many W
  have CI := Lib.hid fun W => iFrac a b many W
  generalize FD a b many = xs at *
  go_wp2_with fail
  refine (CI.out _).mono ?_
  rintro e w2 ⟨v1, rfl, o1, b2⟩
  go_wp2_with fail
  refine (CS.out _).mono ?_
  rintro e w3 ⟨v2, rfl, o2, b3⟩
  have s1 := (IntSl.of_own o1).below b3 (Nat.le_refl _)
  go_wp2_with fail
  refine (sameInts _ w3.heap.size _ _ xs (s1.mono b3.size) (IntSl.of_own o2)).mono ?_
  rintro e w4 ⟨rfl, b4⟩
  have s4 := s1.below b4 b3.size
  have hB : Below w.heap.size w w4 := below_own (below_own (below_own b1 b2 b1.size) b3 (by have := b1.size; have := b2.size; omega)) b4 (by have := b1.size; have := b2.size; have := b3.size; omega)
  clear o1 o2 s1 b1 b2 b3 b4 CS CI
  obtain ⟨A1, c1, rfl, l1, m1, r1⟩ := s4
  by_cases h0 : xs.length = 0
  · have e0 : ((xs.length : Int) == 0) = true := by simp [h0]
    clear h0 HFD hlen
    go_wp2_with (go_at_call 28; refine (alive_any _).mono ?_; rintro e w' ⟨rfl, rfl⟩)
    go_ret
    exact ⟨rfl, hB⟩
  have e0 : ((xs.length : Int) == 0) = false := beq_eq_false_iff_ne.2 (by omega)
  have hv : 1 ≤ b ∧ b ≤ 99 ∧ 0 ≤ a ∧ a ≤ b - 1 ∧ 0 ≤ many ∧ many ≤ 20 := by
    by_cases hv : 1 ≤ b ∧ b ≤ 99 ∧ 0 ≤ a ∧ a ≤ b - 1 ∧ 0 ≤ many ∧ many ≤ 20
    · exact hv
    · have h7 := HFD.out; rw [if_neg hv] at h7; exact absurd (by rw [h7]; rfl) h0
  have hx : xs = fds a b many.toNat := by have := HFD.out; rwa [if_pos hv] at this
  obtain ⟨g1, g2, g3, g4, g5, g6⟩ := hv
  obtain ⟨m, rfl⟩ := Int.eq_ofNat_of_zero_le g5
  have hxl : xs.length = m := by rw [hx, fds_length]; rfl
  have hcell : 0 < m → ∃ b' o, A1 = some ⟨b', o, none⟩ ∧ ∀ j, j < m → w4.cell? ⟨b', o + j, none⟩ = some (.int .i64 (10 * rm a b j / b)) := fun hm => by
    obtain ⟨b', o, e, _, hc⟩ := r1 (by omega)
    refine ⟨b', o, e, fun j hj => ?_⟩
    rw [hc j (by omega), hx]
    exact congrArg some (congrArg (Value.int .i64) (fds_at a b (by simpa using hj)))
  clear HFD r1 hx hlen h0 g5
  generalize xs.length = n at *
  subst hxl
  unfold maxLen at m1
  have g4' : a < b := by omega
  have HT := Lib.hid (tell_eq a b g1)
  have HR := Lib.hid (tell_range a b g1 g3 g4')
  have HD := Lib.hid (digit_range a b g1 g3 g4')
  have HM := Lib.hid (rm_range a b g3 g4')
  go_wp2_with fail
  go_loop [7, 8, 9] (fun s7 s8 s9 => ∃ k : Nat, ∃ N T : Int, k ≤ n ∧ k ≤ 15 ∧ s9 = .int .i64 k ∧ s7 = .int .i64 N ∧ s8 = .int .i64 T ∧ Hid (N = tell a b k) ∧ Hid (T = 10 ^ k * a)) (fun _ _ s9 => 15 - (intOf s9).toNat)
  case atStart => exact ⟨0, 0, a, by omega, by omega, rfl, rfl, rfl, rfl, by show a = 10 ^ 0 * a; simp⟩
  case round =>
    obtain ⟨k, N, T, hk, hk15, rfl, rfl, rfl, hN, hT⟩ := hrel
    have bN : 0 ≤ N ∧ N < 10 ^ k := by rw [hN.out]; exact HR.out k
    have pk : (10 : Int) ^ k ≤ 10 ^ 15 := pow_mono hk15
    have bM := HM.out k
    have eT : T = N * b + rm a b k := by rw [hT.out, hN.out]; exact HT.out k
    have bNb : 0 ≤ N * b := Int.mul_nonneg bN.1 (by omega)
    have bNb2 : N * b ≤ 10 ^ 15 * 99 := Int.mul_le_mul (by omega) g2 (by omega) (by decide)
    have bT0 : 0 ≤ T := by omega
    have bT1 : T ≤ 99000000000000099 := by omega
    have bd : T - N * b < b := by omega
    have bd2 : N * b ≤ T := by omega
    have bN0 : 0 ≤ N := bN.1
    have bN1 : N ≤ 1000000000000000 := by omega
    by_cases hlt : k < n
    · by_cases hlt2 : k < 15
      · have bN2 : N ≤ 100000000000000 := by
          have : (10 : Int) ^ k ≤ 10 ^ 14 := pow_mono (by omega)
          omega
        obtain ⟨b', o, rfl, hc⟩ := hcell (by omega)
        have e1 := hc k hlt
        have hd := HD.out k
        obtain ⟨d0, d1⟩ := hd
        have bT2 : T ≤ 9900000000000099 := by
          have p14 : (10 : Int) ^ k ≤ 10 ^ 14 := pow_mono (by omega)
          have : T ≤ 10 ^ 14 * 99 := by
            rw [hT.out]
            exact Int.mul_le_mul p14 (by omega) g3 (by decide)
          omega
        have HX := Lib.hid (show 10 * N + 10 * rm a b k / b = tell a b (k + 1) by rw [hN.out]; rfl)
        have HY := Lib.hid (show 10 * T = 10 ^ (k + 1) * a by rw [hT.out, Int.pow_succ, Int.mul_right_comm, Int.mul_comm 10])
        clear hc pk bN bM eT bNb bNb2 bd bd2
        generalize 10 * rm a b k / b = D at *
        go_wp2_with fail
        go_round
        case rel => exact ⟨k + 1, 10 * N + D, 10 * T, by omega, by omega, by go_num, rfl, rfl, HX.out, HY.out⟩
        case measure => simp [intOf]; omega
      · have hlt3 : 15 ≤ k := by omega
        clear hlt2 pk bN bM eT
        go_wp2_with fail
        go_ret
        exact ⟨rfl, hB⟩
    · obtain rfl : k = n := by omega
      clear pk bN bM eT
      go_wp2_with fail
      go_ret
      exact ⟨rfl, hB⟩
end Go.Proofs.Ytjhidenjlkdpeaa
