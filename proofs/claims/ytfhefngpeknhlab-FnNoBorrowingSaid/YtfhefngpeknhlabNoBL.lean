/- The law on NoBorrowing: nothing is borrowed if no digit is too small. -/
import Derived.Test.YtfhefngpeknhlabTkgq
import Derived.Test.YtfhefngpeknhlabNoB
import Derived.Test.YtfhefngpeknhlabGr
import Derived.Test.YtfhefngpeknhlabTkq
namespace Go.Proofs.Ytfhefngpeknhlab
set_option linter.unusedVariables false
set_option linter.unusedSimpArgs false
open Go.RowKit

theorem nb_sum {s t : List UInt8} (hk : takB s t = true) : nbB s t = decide (sumO (tkF s t) s.length = 0) := by
  have hr := tk_right hk
  have h01 : ∀ i, i < s.length → 0 ≤ tkF s t i 4 ∧ tkF s t i 4 ≤ 1 := fun i hi => (hr.2.1 i hi).2.2.2.2.1
  cases hn : nbB s t with
  | true =>
    have h : ∀ k, k < s.length → dg t k ≤ dg s k := by
      intro k hlt
      simp only [nbB, Bool.and_eq_true, List.all_eq_true, List.mem_range, decide_eq_true_eq] at hn
      exact hn.2 k hlt
    have h0 : ∀ k, k ≤ s.length → sumO (tkF s t) k = 0 := by
      intro k
      induction k with
      | zero => intro _; rfl
      | succ k ih =>
        intro hk1
        show sumO (tkF s t) k + tkB s t 0 (k + 1) = 0
        rw [ih (by omega), (tk_none 0 (by decide) (by decide) h (k + 1) hk1).1]; rfl
    exact (decide_eq_true (h0 _ (Nat.le_refl _))).symm
  | false =>
    have hex : ∃ k, k < s.length ∧ dg s k < dg t k := by
      apply Classical.byContradiction
      intro hno
      have : nbB s t = true := nbB_all hk fun k hlt => by
        by_cases hle : dg t k ≤ dg s k
        · exact hle
        · exact absurd ⟨k, hlt, by omega⟩ hno
      rw [this] at hn
      exact absurd hn (by decide)
    obtain ⟨k, hlt, hd⟩ := hex
    have hns := takB_num hk
    have hb : tkF s t k 4 = 1 := by
      show tkB s t 0 (k + 1) = 1
      have h0 := tk_zero s t k
      have h1 := tkD_range hns.1 hns.2 0 k
      have h2 := tkB_01 hns.1 hns.2 0 k
      have h3 := tkB_01 hns.1 hns.2 0 (k + 1)
      omega
    have hpos : ∀ m, k < m → m ≤ s.length → 1 ≤ sumO (tkF s t) m := by
      intro m
      induction m with
      | zero => intro h; omega
      | succ m ih =>
        intro h1 h2
        have r := sumO_range h01 m (by omega)
        have r4 := h01 m (by omega)
        show 1 ≤ sumO (tkF s t) m + tkF s t m 4
        by_cases e : m = k
        · rw [e] at r ⊢; omega
        · have := ih (by omega) (by omega); omega
    have := hpos s.length hlt (Nat.le_refl _)
    exact (decide_eq_false (by omega)).symm

set_option maxRecDepth 20000 in
set_option maxHeartbeats 4000000 in
/-- The law on NoBorrowing. -/
theorem law_NoBorrowing (A : Option Addr) (len cap : Nat) (w : World) (hc : CodeIn w A len cap) :
    Calls Try.prog 4 #[.slice A len cap] w fun e w' => e = .returned (.bool true) ∧ Below w.heap.size w w' := by
  have hlc := hc.1
  have hcm := hc.2.1
  unfold maxLen at hcm
  by_cases hbig : 1048576 < len
  · go_enter Try.func4, Try.ntmps4
    go_wp2_with fail
    go_ret
    exact ⟨rfl, Below.refl _ _⟩
  have hbig' : len ≤ 1048576 := by omega
  clear hbig
  go_enter Try.func4, Try.ntmps4
  go_wp2_with fail
  refine (draw_NoB A len cap _ hc).mono ?_
  rintro e w1 ⟨s, t, rfl, hs, ht, b1⟩
  clear hc
  have hsm : s.size ≤ maxLen := by unfold maxLen; omega
  have htm : t.size ≤ maxLen := by unfold maxLen; omega
  have CI := Lib.hid fun W => iNoB s t hsm htm W
  have CS := Lib.hid fun W => sNoB s t hsm htm W
  have CO := Lib.hid fun W => sOrder s t hsm htm W
  have CT := Lib.hid fun hk W => iTakenOf s t hsm htm hk W
  have CB := Lib.hid fun hk W v hR => iBorrows W W.heap.size v s.size (tkF s.data.toList t.data.toList) hR (Nat.le_refl _) (by have := tk_right (s := s.data.toList) (t := t.data.toList) hk; rwa [str_len] at this)
  have HO : Hid (takB s.data.toList t.data.toList = decide (0 ≤ ordI s.data.toList t.data.toList)) := Lib.hid rfl
  have HN := Lib.hid fun h => nbB_no (s := s.data.toList) (t := t.data.toList) h
  have HS := Lib.hid fun h => nb_sum (s := s.data.toList) (t := t.data.toList) h
  rw [str_len] at HS
  clear hsm htm
  generalize nbB s.data.toList t.data.toList = nb at *
  generalize ordI s.data.toList t.data.toList = o at *
  generalize tkF s.data.toList t.data.toList = F at *
  go_wp2_with fail
  refine (CI.out _).mono ?_
  rintro e w2 ⟨rfl, rfl⟩
  go_wp2_with fail
  refine (CS.out _).mono ?_
  rintro e w3 ⟨rfl, b3⟩
  have hB3 := below_own b1 b3 b1.size
  clear b1 b3
  go_wp2_with fail
  refine (CO.out _).mono ?_
  rintro e w4 ⟨rfl, b4⟩
  have hB4 := below_own hB3 b4 hB3.size
  clear hB3 b4
  cases hk : takB s.data.toList t.data.toList with
  | false =>
    have ho : o < 0 := by have := HO.out; rw [hk] at this; simpa using this.symm
    have hc0 := HN.out hk
    subst hc0
    go_wp2_with (go_at_call 8; refine (alive_any _).mono ?_; rintro e w' ⟨rfl, rfl⟩)
    go_ret
    exact ⟨rfl, hB4⟩
  | true =>
    have ho : 0 ≤ o := by have := HO.out; rw [hk] at this; simpa using this.symm
    have HSum := Lib.hid (HS.out hk)
    have CT2 := Lib.hid (CT.out hk)
    have CB2 := Lib.hid (CB.out hk)
    clear HO HN HS hk CT CB
    generalize sumO F s.size = y at *
    go_wp2_with fail
    refine (CT2.out _).mono ?_
    rintro e w5 ⟨v5, rfl, o5, b5⟩
    have hB5 := below_own hB4 b5 hB4.size
    go_wp2_with fail
    refine (CB2.out _ v5 (Recs.of_own o5)).mono ?_
    rintro e w6 ⟨rfl, b6⟩
    have hB6 := below_own hB5 b6 hB5.size
    by_cases hy : y = 0
    · have e1 : (y == 0) = true := by rw [beq_iff_eq]; exact hy
      have e2 : nb = true := by rw [HSum.out]; exact decide_eq_true hy
      subst e2
      clear HSum hy
      go_wp2_with fail
      go_ret
      exact ⟨rfl, hB6⟩
    · have e1 : (y == 0) = false := by rw [beq_eq_false_iff_ne]; exact hy
      have e2 : nb = false := by rw [HSum.out]; exact decide_eq_false hy
      subst e2
      clear HSum hy
      go_wp2_with fail
      go_ret
      exact ⟨rfl, hB6⟩
end Go.Proofs.Ytfhefngpeknhlab
