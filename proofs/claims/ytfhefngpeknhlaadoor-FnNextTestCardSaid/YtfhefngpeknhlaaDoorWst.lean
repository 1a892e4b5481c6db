/- The greatest lot of ways: plain words; the walk of l7Worst. -/
import Derived.Test.YtfhefngpeknhlaaDoorAp
namespace Go.Proofs.YtfhefngpeknhlaaDoor
set_option linter.unusedVariables false
set_option linter.unusedSimpArgs false
open Go.RowKit

/-- The greatest number of keys that are the same as one of the first k. -/
def wst (K : Nat → List UInt8) (m : Nat) : Nat → Nat
  | 0 => 0
  | k + 1 => max (wst K m k) (cntK K m (K k))
theorem wst_ge {K : Nat → List UInt8} {m k j : Nat} (h : j < k) : cntK K m (K j) ≤ wst K m k := by
  induction k with
  | zero => omega
  | succ k ih =>
    show _ ≤ max _ _
    by_cases e : j = k
    · subst e; omega
    · have := ih (by omega); omega
theorem wst_le {K : Nat → List UInt8} {m k y : Nat} (h : ∀ j, j < k → cntK K m (K j) ≤ y) : wst K m k ≤ y := by
  induction k with
  | zero => exact Nat.zero_le _
  | succ k ih =>
    have h1 := ih fun j hj => h j (by omega)
    have h2 := h k (by omega)
    show max _ _ ≤ _
    omega
theorem wst_eq {K : Nat → List UInt8} {m y : Nat} (h : ∀ j, j < m → cntK K m (K j) ≤ y) (h' : y = 0 ∨ ∃ j, j < m ∧ y = cntK K m (K j)) : y = wst K m m := by
  have h1 := wst_le h
  rcases h' with rfl | ⟨j, hj, rfl⟩
  · omega
  · have := wst_ge (K := K) (m := m) hj; omega
theorem wst_small (K : Nat → List UInt8) (m k : Nat) : wst K m k ≤ m := wst_le fun j _ => cntK_le _ _ _
theorem wst_pos {K : Nat → List UInt8} {m : Nat} (h : 0 < m) : 1 ≤ wst K m m := by
  refine Nat.le_trans ?_ (wst_ge (j := 0) h)
  unfold cntK
  exact List.length_pos_iff.2 (fun e => by
    have : (0 : Nat) ∈ (List.range m).filter fun j => K j == K 0 := List.mem_filter.2 ⟨List.mem_range.2 h, beq_self_eq_true _⟩
    rw [e] at this
    cases this)
def ansK (s t : List UInt8) (xs : List Int) : Nat → List UInt8 := fun j => (tkS s t (xs.getD j 0)).data.toList

set_option maxRecDepth 20000 in
set_option maxHeartbeats 4000000 in
theorem sWorst (w : World) (B : Nat) (vw : Value) (xs : List Int) (s t : ByteArray) (hs : s.size ≤ maxLen) (ht : t.size ≤ maxLen) (hX : IntSl w B vw xs) (hBw : B ≤ w.heap.size) (hk : takB s.data.toList t.data.toList = true)
    (hx : ∀ j, j < xs.length → 0 ≤ xs.getD j 0 ∧ xs.getD j 0 ≤ 15) (hl : xs.length ≤ 16) :
    Calls Tryd.prog 83 #[vw, .string s, .string t] w fun e w' => e = .returned (.int .i64 (wst (ansK s.data.toList t.data.toList xs) xs.length xs.length : Nat)) ∧ Below w.heap.size w w' := by
  have HTk := Lib.hid fun j (hj : j < xs.length) W => show Calls Tryd.prog 59 #[.string s, .string t, .int .i64 (xs.getD j 0)] W (fun e w' => e = .returned (.tuple #[.string (tkS s.data.toList t.data.toList (xs.getD j 0)), .bool true]) ∧ Below W.heap.size W w') by
    have h := sTakenBy s t (xs.getD j 0) hs ht W
    have hp : pairB s.data.toList t.data.toList (xs.getD j 0) = true := by unfold pairB; rw [hk, decide_eq_true (hx j hj)]; rfl
    rwa [show pkS s.data.toList t.data.toList (xs.getD j 0) = tkS s.data.toList t.data.toList (xs.getD j 0) from if_pos hp, hp] at h
  obtain ⟨A, cap, rfl, hnc, hcm, hcell⟩ := hX
  unfold maxLen at hcm
  have Hc := Lib.hid hcell
  have HW := Lib.hid fun k => wst_small (ansK s.data.toList t.data.toList xs) xs.length k
  have HC := Lib.hid fun k l => cntK_le (ansK s.data.toList t.data.toList xs) k l
  clear hcell hs ht hk hx
  go_enter Tryd.func83, Tryd.ntmps83
  go_wp2_with fail
  go_loopg [7, 8, 9, 10, 11, 12, 13, 14] xs.length (fun g s7 s8 s9 s10 s11 s12 s13 s14 wr => ∃ k y : Nat, g + k = xs.length ∧ s8 = .int .i64 k ∧ s7 = .int .i64 y ∧ Hid (y = wst (ansK s.data.toList t.data.toList xs) xs.length k) ∧ Below w.heap.size w wr)
  case atStart => exact ⟨0, 0, rfl, rfl, rfl, Lib.hid rfl, Below.refl _ _⟩
  case round =>
    obtain ⟨k, y, hkg, rfl, rfl, HY, hB⟩ := hrel
    by_cases hlt : k < xs.length
    · obtain ⟨go, hgo⟩ : ∃ x, x = gk := ⟨_, rfl⟩
      obtain ⟨W1, rfl⟩ : ∃ x, x = wr := ⟨_, rfl⟩
      obtain ⟨b, o, rfl, hb, hc⟩ := Hc.out (by omega)
      have HCc := Lib.hid hc
      have hbw : b < w.heap.size := by omega
      have e1 := (hB.cell (p := ⟨b, o + k, none⟩) hbw).trans (hc k hlt)
      have HK := Lib.hid (HTk.out k hlt)
      have hy := HW.out k
      rw [← HY.out] at hy
      have HXk := Lib.hid (show ansK s.data.toList t.data.toList xs k = (tkS s.data.toList t.data.toList (xs.getD k 0)).data.toList from rfl)
      have hki : (k : Int) < (xs.length : Int) := by omega
      have hkd : decide ((k : Int) < (xs.length : Int)) = true := decide_eq_true hki
      have HB := Lib.hid hB
      clear hc hB
      generalize tkS s.data.toList t.data.toList (xs.getD k 0) = x at *
      generalize xs.getD k 0 = wk at *
      go_wp2_with fail
      refine (HK.out _).mono ?_
      rintro e w2 ⟨rfl, b2⟩
      have HB2 := Lib.hid (below_own HB.out b2 HB.out.size)
      clear HB b2 e1 HK
      go_wp2_with fail
      go_loopg [9, 12, 13, 14] xs.length (fun g s9 s12 s13 s14 wr => ∃ j n : Nat, g + j = xs.length ∧ s12 = .int .i64 j ∧ s9 = .int .i64 n ∧ Hid (n = cntK (ansK s.data.toList t.data.toList xs) j x.data.toList) ∧ Below w.heap.size w wr)
      case atStart => exact ⟨0, 0, rfl, rfl, rfl, Lib.hid rfl, HB2.out⟩
      case round =>
        obtain ⟨j, n, hj, rfl, rfl, HN, hB⟩ := hrel
        by_cases hjl : j < xs.length
        · have e1 := (hB.cell (p := ⟨b, o + j, none⟩) hbw).trans (HCc.out j hjl)
          have HKj := Lib.hid (HTk.out j hjl)
          have hn := HC.out j x.data.toList
          rw [← HN.out] at hn
          have HS := Lib.hid (cntK_succ (ansK s.data.toList t.data.toList xs) j x.data.toList)
          have HXj := Lib.hid (show ansK s.data.toList t.data.toList xs j = (tkS s.data.toList t.data.toList (xs.getD j 0)).data.toList from rfl)
          rw [HXj.out, ← HN.out] at HS
          have hji : (j : Int) < (xs.length : Int) := by omega
          have HB := Lib.hid hB
          clear hB HXj
          generalize tkS s.data.toList t.data.toList (xs.getD j 0) = z at *
          generalize xs.getD j 0 = wj at *
          by_cases hxz : x = z
          · have heq : (x.toList == z.toList) = true := by rw [hxz]; exact beq_self_eq_true _
            have HE := Lib.hid (show cntK (ansK s.data.toList t.data.toList xs) (j + 1) x.data.toList = n + 1 by rw [HS.out, if_pos (by rw [hxz])])
            clear hxz HS
            go_wp2_with fail
            refine (HKj.out _).mono ?_
            rintro e w3 ⟨rfl, b3⟩
            have hB3 := below_own HB.out b3 HB.out.size
            go_wp2_with fail
            go_roundg (gk - 1)
            case measure => omega
            case rel => exact ⟨j + 1, n + 1, by omega, by go_num, by go_num, Lib.hid HE.out.symm, hB3⟩
          · have heq := strs_ne hxz
            have HE := Lib.hid (show cntK (ansK s.data.toList t.data.toList xs) (j + 1) x.data.toList = n by
              rw [HS.out, if_neg (fun e => hxz (by rw [← bStr_of x, ← bStr_of z, e]))]; rfl)
            clear hxz HS
            go_wp2_with fail
            refine (HKj.out _).mono ?_
            rintro e w3 ⟨rfl, b3⟩
            have hB3 := below_own HB.out b3 HB.out.size
            go_wp2_with fail
            go_roundg (gk - 1)
            case measure => omega
            case rel => exact ⟨j + 1, n, by omega, by go_num, rfl, Lib.hid HE.out.symm, hB3⟩
        · obtain rfl : j = xs.length := by omega
          have HM := Lib.hid (show wst (ansK s.data.toList t.data.toList xs) xs.length (k + 1) = max y n by
            show max _ _ = _
            rw [← HY.out, HXk.out, ← HN.out])
          have hn := HC.out xs.length x.data.toList
          rw [← HN.out] at hn
          by_cases hyn : (y : Int) ≤ (n : Int)
          · have HMx := Lib.hid (show max y n = n by omega)
            go_wp2_with fail
            go_roundg (go - 1)
            case measure => omega
            case rel => exact ⟨k + 1, n, by omega, by go_num, by first | rfl | (simp; omega), Lib.hid (by rw [HM.out, HMx.out]), hB⟩
          · have hyn' : (n : Int) < (y : Int) := by omega
            have HMx := Lib.hid (show max y n = y by omega)
            clear hyn
            go_wp2_with fail
            go_roundg (go - 1)
            case measure => omega
            case rel => exact ⟨k + 1, y, by omega, by go_num, by first | rfl | (simp; omega), Lib.hid (by rw [HM.out, HMx.out]), hB⟩
    · obtain rfl : k = xs.length := by omega
      go_wp2_with fail
      go_ret
      exact ⟨by rw [← HY.out]; rfl, hB⟩
end Go.Proofs.YtfhefngpeknhlaaDoor
