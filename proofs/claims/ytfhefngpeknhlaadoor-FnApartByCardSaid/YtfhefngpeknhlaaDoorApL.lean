/- The law on ApartBy: more exercises tell more apart. -/
import Derived.Test.YtfhefngpeknhlaaDoorAp
import Derived.Test.YtfhefngpeknhlaaDoorLst
namespace Go.Proofs.YtfhefngpeknhlaaDoor
set_option linter.unusedVariables false
set_option linter.unusedSimpArgs false
open Go.RowKit

theorem dcK_up (K : Nat → List UInt8) (k : Nat) : dcK K (k + 1) ≤ dcK K k + 1 := by
  show dcK K k + _ ≤ _
  split <;> omega
theorem dcK_same {K : Nat → List UInt8} {k : Nat} (h : hasK K k (K k) = true) : dcK K (k + 1) = dcK K k := by
  show dcK K k + (if hasK K k (K k) = true then 0 else 1) = _
  rw [if_pos h]; rfl
theorem hasK_of {K : Nat → List UInt8} {k j : Nat} (hj : j < k) (h : K j = K k) : hasK K k (K k) = true := by
  unfold hasK
  exact List.any_eq_true.2 ⟨j, List.mem_range.2 hj, by rw [h]; exact beq_self_eq_true _⟩
theorem dcK_mono {K L : Nat → List UInt8} (h : ∀ i j, K i = K j → L i = L j) (k : Nat) : dcK L k ≤ dcK K k := by
  induction k with
  | zero => exact Nat.le_refl _
  | succ k ih =>
    by_cases hk : hasK K k (K k) = true
    · have hl : hasK L k (L k) = true := by
        unfold hasK at hk ⊢
        obtain ⟨j, hj, e⟩ := List.any_eq_true.1 hk
        exact List.any_eq_true.2 ⟨j, hj, by rw [h j k (by simpa using e)]; exact beq_self_eq_true _⟩
      rw [dcK_same hk, dcK_same hl]
      exact ih
    · have e : dcK K (k + 1) = dcK K k + 1 := by
        show dcK K k + (if hasK K k (K k) = true then 0 else 1) = _
        rw [if_neg hk]
      have := dcK_up L k
      omega
theorem key_odd {S : Nat → Nat → ByteArray} {n : Nat} (k : Nat) (h1 : k % 2 = 1) (h2 : k / 2 % 2 = 0) : keyT S n (k : Int) = keyT S n ((k + 2 : Nat) : Int) := by
  have : (List.range n).map (ansT S (k : Int)) = (List.range n).map (ansT S ((k + 2 : Nat) : Int)) := List.map_congr_left fun i _ => by
    show tkS _ _ _ = tkS _ _ _
    have : tkL (S i 0).data.toList (S i 1).data.toList k (S i 0).data.toList.length = tkL (S i 0).data.toList (S i 1).data.toList (k + 2 : Nat) (S i 0).data.toList.length := List.map_congr_left fun j _ => tkD_odd _ _ k j (by omega) (by omega)
    unfold tkS
    rw [this]
  unfold keyT
  rw [this]
theorem apart_law (S : Nat → Nat → ByteArray) (n : Nat) : (tokB S n = false → apI S n = -1) ∧ (tokB S n = true → 0 ≤ apI S n ∧ apI S n ≤ 12 ∧ (n = 0 → apI S n = 1) ∧ (0 < n → apI S (n - 1) ≤ apI S n)) := by
  refine ⟨fun h => by simp [apI, h], fun h => ?_⟩
  have e : apI S n = (dcK (fun j => keyT S n (j : Int)) 16 : Int) := by unfold apI; rw [if_pos h]
  refine ⟨by rw [e]; omega, ?_, fun h0 => ?_, fun h0 => ?_⟩
  · rw [e]
    generalize hK : (fun j : Nat => keyT S n (j : Int)) = K
    have hs : ∀ a, a % 2 = 1 → a / 2 % 2 = 0 → hasK K (a + 2) (K (a + 2)) = true := fun a h1 h2 => hasK_of (j := a) (by omega) (by rw [← hK]; exact key_odd a h1 h2)
    have s3 := dcK_same (hs 1 (by decide) (by decide))
    have s7 := dcK_same (hs 5 (by decide) (by decide))
    have s11 := dcK_same (hs 9 (by decide) (by decide))
    have s15 := dcK_same (hs 13 (by decide) (by decide))
    have u0 := dcK_up K 0
    have u1 := dcK_up K 1
    have u2 := dcK_up K 2
    have u4 := dcK_up K 4
    have u5 := dcK_up K 5
    have u6 := dcK_up K 6
    have u8 := dcK_up K 8
    have u9 := dcK_up K 9
    have u10 := dcK_up K 10
    have u12 := dcK_up K 12
    have u13 := dcK_up K 13
    have u14 := dcK_up K 14
    have z : dcK K 0 = 0 := rfl
    simp only [Nat.reduceAdd] at *
    omega
  · rw [e]
    subst h0
    generalize hK : (fun j : Nat => keyT S 0 (j : Int)) = K
    have hc : ∀ i j, K i = K j := fun i j => by rw [← hK]; rfl
    have : ∀ k, dcK K (k + 1) = 1 := by
      intro k
      induction k with
      | zero => rfl
      | succ k ih => rw [dcK_same (hasK_of (j := 0) (by omega) (hc _ _)), ih]
    have := this 15
    simp only [Nat.reduceAdd] at this
    omega
  · have h' := tokB_head h (show n - 1 ≤ n by omega)
    have e' : apI S (n - 1) = (dcK (fun j => keyT S (n - 1) (j : Int)) 16 : Int) := by unfold apI; rw [if_pos h']
    rw [e, e']
    have := dcK_mono (K := fun j : Nat => keyT S n (j : Int)) (L := fun j : Nat => keyT S (n - 1) (j : Int)) (fun i j hij => by
      have h1 := (keyT_iff (fun a ha => tokB_at h ha) (i : Int) (j : Int)).1 hij
      exact (keyT_iff (fun a ha => tokB_at h' ha) (i : Int) (j : Int)).2 fun a ha => h1 a (by omega)) 16
    omega

set_option maxRecDepth 20000 in
set_option maxHeartbeats 4000000 in
/-- The law on ApartBy. -/
theorem law_ApartBy (A : Option Addr) (len cap : Nat) (w : World) (hc : CodeIn w A len cap) :
    Calls Tryd.prog 8 #[.slice A len cap] w fun e w' => e = .returned (.bool true) ∧ Below w.heap.size w w' := by
  have hlc := hc.1
  have hcm := hc.2.1
  unfold maxLen at hcm
  by_cases hbig : 1048576 < len
  · go_enter Tryd.func8, Tryd.ntmps8
    go_wp2_with fail
    go_ret
    exact ⟨rfl, Below.refl _ _⟩
  have hbig' : len ≤ 1048576 := by omega
  clear hbig
  go_enter Tryd.func8, Tryd.ntmps8
  go_wp2_with fail
  refine (draw_Apart A len cap _ hc).mono ?_
  rintro e w1 ⟨v, n, S, rfl, hn, hS, o1, b1⟩
  clear hc
  have HS : Hid (∀ m, ∀ i, i < m → ∀ j, j < 3 → (S i j).size ≤ maxLen) := Lib.hid fun _ i _ j _ => by have := hS i j; unfold maxLen; omega
  have hR1 := Recs.of_own o1
  obtain ⟨A1, cap1, rfl, hnc, hcm1, _⟩ := id hR1
  have HR1 := Lib.hid hR1
  unfold maxLen at hcm1
  have CI := Lib.hid fun W hR hB => iApart W w1.heap.size (.slice A1 n cap1) n S hR hB (HS.out n)
  have CP := Lib.hid fun W hR hB => iApart W w1.heap.size (.slice A1 (n - 1) cap1) (n - 1) S hR hB (HS.out (n - 1))
  have CS := Lib.hid fun W hR hB => sApart W w1.heap.size (.slice A1 n cap1) n S hR hB (HS.out n)
  obtain ⟨hl1, hl2⟩ := apart_law S n
  have HL1 := Lib.hid hl1
  have HL2 := Lib.hid hl2
  clear hS o1 hR1 hl1 hl2
  generalize apI S n = x at *
  generalize apI S (n - 1) = y at *
  go_wp2_with fail
  refine (CI.out _ HR1.out (Nat.le_refl _)).mono ?_
  rintro e w2 ⟨rfl, b2⟩
  have hB2 := below_own b1 b2 b1.size
  have HR2 := Lib.hid (HR1.out.below b2 (Nat.le_refl _))
  have hs2 := b2.size
  clear b1 b2 HR1
  go_wp2_with fail
  refine (CS.out _ HR2.out hs2).mono ?_
  rintro e w3 ⟨rfl, b3⟩
  have hB3 := below_own hB2 b3 hB2.size
  have HR3 := Lib.hid (HR2.out.below b3 hs2)
  have hs3 : w1.heap.size ≤ w3.heap.size := by have := b3.size; omega
  clear hB2 b3 HR2
  cases hk : tokB S n with
  | false =>
    have hx := HL1.out hk
    subst hx
    go_wp2_with (go_at_call 20; refine (alive_any _).mono ?_; rintro e w' ⟨rfl, rfl⟩)
    go_ret
    exact ⟨rfl, hB3⟩
  | true =>
    obtain ⟨h0, h12, hz0, hm⟩ := HL2.out hk
    by_cases hz : n = 0
    · have hx := hz0 hz
      subst hx
      have e0 : ((n : Int) == 0) = true := by rw [beq_iff_eq]; omega
      clear hm h12 h0
      go_wp2_with fail
      go_ret
      exact ⟨rfl, hB3⟩
    · have e0 : ((n : Int) == 0) = false := by rw [beq_eq_false_iff_ne]; omega
      have hz' : 0 < n := by omega
      have hyx := hm hz'
      have HRp := Lib.hid (recs_head HR3.out (n - 1) (by omega))
      have hn1 : (n : Int) - 1 = ((n - 1 : Nat) : Int) := by omega
      have C2 := Lib.hid (CP.out w3 HRp.out hs3)
      clear hz HRp hm hz0
      obtain ⟨n1, hn1'⟩ : ∃ m, n - 1 = m := ⟨_, rfl⟩
      rw [hn1'] at C2 hn1
      go_wp2_with fail
      refine C2.out.mono ?_
      rintro e w6 ⟨rfl, b6⟩
      have hB6 := below_own hB3 b6 hB3.size
      go_wp2_with fail
      go_ret
      exact ⟨by first | rfl | (simp <;> omega), hB6⟩
end Go.Proofs.YtfhefngpeknhlaaDoor
