/- The law on SilentIn: the right way is silent. -/
import Derived.Test.YtfhefngpeknhlaaDoorSil2
import Derived.Test.YtfhefngpeknhlaaDoorGr
import Derived.Test.YtfhefngpeknhlaaDoorTkq
namespace Go.Proofs.YtfhefngpeknhlaaDoor
set_option linter.unusedVariables false
set_option linter.unusedSimpArgs false
open Go.RowKit

theorem whL_mem {p : Nat → Bool} {k j : Nat} (hj : j < k) (h : p j = true) : (j : Int) ∈ whL p k := by
  simp only [whL, List.mem_map, List.mem_filter, List.mem_range]
  exact ⟨j, ⟨hj, h⟩, rfl⟩
theorem whL_first {p : Nat → Bool} {k : Nat} (hk : 0 < k) (h : p 0 = true) : 0 < (whL p k).length ∧ (whL p k).getD 0 0 = 0 := by
  obtain ⟨m, rfl⟩ : ∃ m, k = m + 1 := ⟨k - 1, by omega⟩
  have : whL p (m + 1) = 0 :: ((List.map Nat.succ (List.range m)).filter p).map fun i : Nat => (i : Int) := by
    unfold whL
    rw [List.range_succ_eq_map, List.filter_cons, if_pos h]
    rfl
  rw [this]
  exact ⟨by simp, rfl⟩
theorem whL_none {p : Nat → Bool} {k : Nat} (h : ∀ j, p j = false) : whL p k = [] := by
  unfold whL
  rw [List.filter_eq_nil_iff.2 (fun j _ => by rw [h j]; simp)]
  rfl
theorem com_in {s t : List UInt8} {way : Int} (hk : takB s t = true) (h0 : 0 ≤ way) (h1 : way ≤ 15) : comB s t way = decide (tkS s t way = tkS s t 0) := by
  simp [comB, pairB, hk, h0, h1]
theorem com_out {s t : List UInt8} {way : Int} (hk : takB s t = false) : comB s t way = false := by simp [comB, pairB, hk]
theorem sil_law (s t : List UInt8) : (takB s t = false → silL s t = []) ∧ (takB s t = true → 0 < (silL s t).length ∧ (silL s t).getD 0 0 = 0 ∧ ∀ k : Nat, k < 8 → (k : Int) ∈ silL s [48]) := by
  refine ⟨fun h => whL_none fun j => com_out h, fun h => ?_⟩
  have h1 := whL_first (p := fun k : Nat => comB s t k) (k := 16) (by decide) (by rw [com_in h (by decide) (by decide)]; simp)
  refine ⟨h1.1, h1.2, fun k hk => ?_⟩
  have hn := (takB_num h).1
  refine whL_mem (by omega) ?_
  show comB s [48] k = true
  rw [com_in (takB_nought hn) (by omega) (by omega)]
  simp only [decide_eq_true_eq]
  refine (tkS_iff hn (by decide) _ _).2 fun j _ => ?_
  rw [(tk_nought hn k (by omega) (by omega) j).2, (tk_nought hn 0 (by decide) (by decide) j).2]

set_option maxRecDepth 20000 in
set_option maxHeartbeats 1000000 in
theorem hasInt_any (w : World) (B : Nat) (v : Value) (xs : List Int) (n : Int) (h : IntSl w B v xs) :
    Calls Tryd.prog 27 #[v, .int .i64 n] w fun e w' => e = .returned (.bool (decide (n ∈ xs))) ∧ w = w' := by
  obtain ⟨A, cap, rfl, l1, m1, r1⟩ := h
  have R1 := Lib.hid r1
  clear r1
  unfold maxLen at m1
  go_enter Tryd.func27, Tryd.ntmps27
  go_wp2_with fail
  go_loopg [5] xs.length (fun g s5 wr => ∃ k : Nat, g + k = xs.length ∧ s5 = .int .i64 k ∧ Hid (∀ j, j < k → xs.getD j 0 ≠ n) ∧ w = wr)
  case atStart => exact ⟨0, rfl, rfl, Lib.hid fun j hj => by omega, rfl⟩
  case round =>
    obtain ⟨k, hk, rfl, HN, rfl⟩ := hrel
    by_cases hlt : k < xs.length
    · obtain ⟨b, o, rfl, hb, hc⟩ := R1.out (by omega)
      have e1 := hc k hlt
      have hi : (k : Int) < (xs.length : Int) := by omega
      have HX : Hid (xs.getD k 0 ∈ xs) := Lib.hid (by rw [List.getD_eq_getElem?_getD, List.getElem?_eq_getElem hlt]; exact List.getElem_mem hlt)
      clear hc
      generalize hx : xs.getD k 0 = x at *
      by_cases he : x = n
      · have HD : Hid (decide (n ∈ xs) = true) := Lib.hid (by rw [← he]; simpa using HX.out)
        have e2 : (x == n) = true := by simp [he]
        clear he hx
        go_wp2_with fail
        go_ret
        exact ⟨by rw [HD.out]; rfl, rfl⟩
      · have e2 : (x == n) = false := beq_eq_false_iff_ne.2 he
        have HE := Lib.hid (show xs.getD k 0 ≠ n by rw [hx]; exact he)
        clear he hx
        go_wp2_with fail
        go_roundg (gk - 1)
        case measure => omega
        case rel => exact ⟨k + 1, by omega, by go_num, Lib.hid fun j hj => by
          by_cases e : j = k
          · subst e; exact HE.out
          · exact HN.out j (by omega), rfl⟩
    · obtain rfl : k = xs.length := by omega
      have HD : Hid (decide (n ∈ xs) = false) := Lib.hid (by
        rw [decide_eq_false_iff_not]
        intro hm
        obtain ⟨j, hj, e⟩ := List.getElem_of_mem hm
        exact HN.out j hj (by rw [List.getD_eq_getElem?_getD, List.getElem?_eq_getElem hj]; exact e))
      go_wp2_with fail
      go_ret
      exact ⟨by rw [HD.out]; rfl, rfl⟩

set_option maxRecDepth 20000 in
set_option maxHeartbeats 4000000 in
/-- The law on SilentIn. -/
theorem law_SilentIn (A : Option Addr) (len cap : Nat) (w : World) (hc : CodeIn w A len cap) :
    Calls Tryd.prog 6 #[.slice A len cap] w fun e w' => e = .returned (.bool true) ∧ Below w.heap.size w w' := by
  have hlc := hc.1
  have hcm := hc.2.1
  unfold maxLen at hcm
  by_cases hbig : 1048576 < len
  · go_enter Tryd.func6, Tryd.ntmps6
    go_wp2_with fail
    go_ret
    exact ⟨rfl, Below.refl _ _⟩
  have hbig' : len ≤ 1048576 := by omega
  clear hbig
  go_enter Tryd.func6, Tryd.ntmps6
  go_wp2_with fail
  refine (draw_Silent A len cap _ hc).mono ?_
  rintro e w1 ⟨s, t, rfl, hs, ht, b1⟩
  clear hc
  have hsm : s.size ≤ maxLen := by unfold maxLen; omega
  have htm : t.size ≤ maxLen := by unfold maxLen; omega
  have CI := Lib.hid fun W => iSilent s t hsm htm W
  have CS := Lib.hid fun W => sSilent s t hsm htm W
  have CZ := Lib.hid fun W => iSilent s ⟨#[48]⟩ hsm (by unfold maxLen; decide) W
  have CO := Lib.hid fun W => iOrder s t hsm htm W
  have hl1 : (silL s.data.toList t.data.toList).length ≤ 16 := whL_length _ _
  have hl2 : (silL s.data.toList [48]).length ≤ 16 := whL_length _ _
  have HL := Lib.hid (sil_law s.data.toList t.data.toList)
  have HO : Hid (takB s.data.toList t.data.toList = decide (0 ≤ ordI s.data.toList t.data.toList)) := Lib.hid rfl
  rw [show (⟨#[48]⟩ : ByteArray).data.toList = [48] from rfl] at CZ
  clear hsm htm
  generalize silL s.data.toList t.data.toList = xs at *
  generalize silL s.data.toList [48] = zs at *
  generalize ordI s.data.toList t.data.toList = o at *
  generalize takB s.data.toList t.data.toList = k at *
  go_wp2_with fail
  refine (CI.out _).mono ?_
  rintro e w2 ⟨v2, rfl, o2, b2⟩
  have hB2 := below_own b1 b2 b1.size
  have s2 := IntSl.of_own o2
  clear o2 b1 b2
  go_wp2_with fail
  refine (CS.out _).mono ?_
  rintro e w3 ⟨v3, rfl, o3, b3⟩
  have hB3 := below_own hB2 b3 hB2.size
  have s3 := s2.below b3 (Nat.le_refl _)
  have hs3 := b3.size
  clear s2 hB2 b3
  go_wp2_with fail
  refine (sameInts _ w3.heap.size _ _ xs (s3.mono hs3) (IntSl.of_own o3)).mono ?_
  rintro e w4 ⟨rfl, b4⟩
  have hB4 := below_own hB3 b4 hB3.size
  have s4 := s3.below b4 hs3
  have hs4 := b4.size
  clear s3 hB3 b4 o3
  obtain ⟨A', cap', rfl, hnc, hcm', hcell⟩ := s4
  have Hc := Lib.hid hcell
  unfold maxLen at hcm'
  clear hcell
  cases k with
  | false =>
    have ho : o < 0 := by have := HO.out; simpa using this.symm
    have hx := HL.out.1 rfl
    subst hx
    go_wp2_with fail
    refine (CO.out _).mono ?_
    rintro e w5 ⟨rfl, rfl⟩
    go_wp2_with (go_at_call 20; refine (alive_any _).mono ?_; rintro e w' ⟨rfl, rfl⟩)
    go_ret
    exact ⟨rfl, hB4⟩
  | true =>
    obtain ⟨hx1, hx2, hx3⟩ := HL.out.2 rfl
    have HM := Lib.hid hx3
    have e1 : ((xs.length : Int) == 0) = false := by simp; intro e; rw [e] at hx1; exact absurd hx1 (by decide)
    obtain ⟨b, o', rfl, hb, hc⟩ := Hc.out hx1
    have c0 : w4.cell? ⟨b, o' + 0, none⟩ = some (.int .i64 0) := by rw [← hx2]; exact hc 0 hx1
    rw [Nat.add_zero] at c0
    clear hc hx2 hx3 HL HO Hc CO
    go_wp2_with fail
    refine (CZ.out _).mono ?_
    rintro e w5 ⟨v5, rfl, o5, b5⟩
    have hB5 := below_own hB4 b5 hB4.size
    have c5 := (b5.cell (p := ⟨b, o', none⟩) (by show b < w4.heap.size; omega)).trans c0
    have s5 := IntSl.of_own o5
    clear hB4 b5 c0 o5
    have HS := Lib.hid fun (n : Int) => hasInt_any w5 w5.heap.size v5 zs n s5
    clear s5
    go_wp2_with fail
    go_loopg [7] 8 (fun g s7 wr => ∃ k : Nat, g + k = 8 ∧ s7 = .int .i64 k ∧ w5 = wr)
    case atStart => exact ⟨0, rfl, rfl, rfl⟩
    case round =>
      obtain ⟨k, hk, rfl, rfl⟩ := hrel
      by_cases hlt : k < 8
      · have HK := Lib.hid (HS.out k)
        rw [show decide ((k : Int) ∈ zs) = true from decide_eq_true (HM.out k hlt)] at HK
        go_wp2_with fail
        refine HK.out.mono ?_
        rintro e w6 ⟨rfl, rfl⟩
        go_wp2_with fail
        go_roundg (gk - 1)
        case measure => omega
        case rel => exact ⟨k + 1, by omega, by go_num, rfl⟩
      · obtain rfl : k = 8 := by omega
        go_wp2_with fail
        go_ret
        exact ⟨rfl, hB5⟩
end Go.Proofs.YtfhefngpeknhlaaDoor
