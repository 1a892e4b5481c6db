/- Lists of texts, and the laws' own helpers on them. -/
import Derived.Test.YtfmfjbphflkhiaaDoorStrs
import Derived.Test.YtfmfjbphflkhiaaDoorInts
import Derived.Deep.RegionHeld3
import Derived.BigQuiet
import Derived.Lib.ItoaNum
namespace Go.Proofs.YtfmfjbphflkhiaaDoor
set_option linter.unusedVariables false
set_option linter.unusedSimpArgs false
open Go.RowKit

/-- A row of one-cell elements. -/
def rowV (V : Nat → Value) (n : Nat) : List Value := (List.range n).map V
theorem rowV_length (V : Nat → Value) (n : Nat) : (rowV V n).length = n := by simp [rowV]
theorem rowV_at (V : Nat → Value) {n i : Nat} (h : i < n) : (rowV V n)[i]? = some (V i) := by simp [rowV, h]
theorem rowV_succ (V : Nat → Value) (n : Nat) : rowV V (n + 1) = rowV V n ++ [V n] := by simp [rowV, List.range_succ]
theorem rowV_zero (V : Nat → Value) : rowV V 0 = [] := rfl
theorem rowV_congr {V U : Nat → Value} {n : Nat} (h : ∀ i, i < n → V i = U i) : rowV V n = rowV U n := by
  unfold rowV
  exact List.map_congr_left fun i hi => h i (by simpa using hi)
def mixV (V U : Nat → Value) (k i : Nat) : Value := if i < k then V i else U i
theorem mixV_zero (V U : Nat → Value) (n : Nat) : rowV (mixV V U 0) n = rowV U n := rowV_congr fun i _ => by simp [mixV]
theorem mixV_all (V U : Nat → Value) (n : Nat) : rowV (mixV V U n) n = rowV V n := rowV_congr fun i hi => by simp [mixV, hi]
theorem mixV_set (V U : Nat → Value) {n i : Nat} (h : i < n) : (rowV (mixV V U i) n).set i (V i) = rowV (mixV V U (i + 1)) n := by
  apply List.ext_getElem?
  intro j
  by_cases hj : j < n
  · rw [rowV_at _ hj]
    by_cases e : i = j
    · subst e
      rw [List.getElem?_set_self (by rw [rowV_length]; exact h)]
      simp [mixV]
    · rw [List.getElem?_set_ne e, rowV_at _ hj]
      have : (j < i) ↔ (j < i + 1) := by omega
      simp [mixV, this]
  · rw [List.getElem?_eq_none (by rw [List.length_set, rowV_length]; omega), List.getElem?_eq_none (by rw [rowV_length]; omega)]
theorem Sl.of_ownV {w : World} {base : Nat} {e : TypeId} {v : Value} {n : Nat} {V : Nat → Value} (h : Own w base e 1 v n (rowV V n)) : Sl w w.heap.size n v n V := by
  have h1 := Sl.of_own h
  rw [Nat.mul_one] at h1
  exact h1.congr fun j hj => by
    show (rowV V n).getD j undef = _
    rw [List.getD_eq_getElem?_getD, rowV_at V hj]; rfl
def TV (f : Nat → ByteArray) : Nat → Value := fun i => .string (f i)

theorem infoStr : (Tryd.prog.info? 9).map (fun i => (i.zero, i.size, i.bytes)) = some (some (.string ByteArray.empty), 1, 16) := by kernel_rfl

set_option maxRecDepth 20000 in
set_option maxHeartbeats 1000000 in
theorem eqTexts (w : World) (B : Nat) (v1 v2 : Value) (n : Nat) (f : Nat → ByteArray) (h1 : Sl w B n v1 n (TV f)) (h2 : Sl w B n v2 n (TV f)) :
    Calls Tryd.prog 22 #[v1, v2] w fun e w' => e = .returned (.bool true) ∧ Below w.heap.size w w' := by
  obtain ⟨A1, c1, rfl, l1, m1, r1⟩ := h1
  obtain ⟨A2, c2, rfl, l2, m2, r2⟩ := h2
  have R1 := Lib.hid r1
  have R2 := Lib.hid r2
  clear r1 r2
  unfold maxLen at m1 m2
  go_enter Tryd.func22, Tryd.ntmps22
  go_wp2
  go_loopg [5] n (fun g i wr => ∃ k q : Nat, g + k = n ∧ i = .int .i64 k ∧ wr = w.drewN q)
  case atStart => exact ⟨0, 0, rfl, rfl, rfl⟩
  case round =>
    obtain ⟨k, q, hk, rfl, rfl⟩ := hrel
    by_cases hlt : k < n
    · obtain ⟨b1, o1, rfl, hb1, hc1⟩ := R1.out (by omega)
      obtain ⟨b2, o2, rfl, hb2, hc2⟩ := R2.out (by omega)
      have e1 := hc1 k hlt
      have e2 := hc2 k hlt
      simp only [TV] at e1 e2
      clear hc1 hc2
      have hi : (k : Int) < (n : Int) := by omega
      go_wp2_with fail
      go_quiet (fail)
      go_wp2
      go_roundg (gk - 1)
      case measure => omega
      case rel => exact ⟨k + 1, _, by omega, by go_num, rfl⟩
    · obtain rfl : k = n := by omega
      go_wp2
      go_ret
      exact ⟨rfl, below_drewN (Below.refl _ _) _⟩

/-- A mark's text. -/
def mt (k : Nat) : ByteArray := bStr (109 :: Lib.decDigits k)
theorem dd_len (n : Nat) : (Lib.decDigits n).length ≤ n + 1 := by
  induction n using Nat.strongRecOn with
  | ind n ih =>
    unfold Lib.decDigits
    by_cases h : n < 10
    · rw [dif_pos h]; simp
    · rw [dif_neg h]
      have := ih (n / 10) (by omega)
      rw [List.length_append]
      simp only [List.length_cons, List.length_nil]
      omega
theorem dd_small {n : Nat} (h : n < 10) : Lib.decDigits n = [UInt8.ofNat (48 + n % 10)] := by
  unfold Lib.decDigits
  rw [dif_pos h, Nat.mod_eq_of_lt h]
theorem dd_big {n : Nat} (h : ¬ n < 10) : Lib.decDigits n = Lib.decDigits (n / 10) ++ [UInt8.ofNat (48 + n % 10)] := by
  rw [Lib.decDigits, dif_neg h]
/-- How far a number's text is. -/
def MR (n k : Nat) (c : ByteArray) : Prop := (0 < k → Lib.decDigits k ++ c.data.toList = Lib.decDigits n) ∧ (k = 0 → c.data.toList = Lib.decDigits n)
theorem MR.step {n k : Nat} {c : ByteArray} (h : MR n k c) (hk : 0 < k) : MR n (k / 10) (dStr (k % 10) ++ c) := by
  have h1 := h.1 hk
  have e : (dStr (k % 10) ++ c).data.toList = UInt8.ofNat (48 + k % 10) :: c.data.toList := by simp [dStr]
  refine ⟨fun h0 => ?_, fun h0 => ?_⟩
  · rw [e, ← h1, dd_big (show ¬ k < 10 by omega)]
    simp
  · rw [e, ← h1, dd_small (show k < 10 by omega)]
    rfl
theorem MR.size {n k : Nat} {c : ByteArray} (h : MR n k c) : c.size ≤ n + 1 := by
  rw [← str_len]
  have hd := dd_len n
  by_cases hk : 0 < k
  · have := congrArg List.length (h.1 hk)
    rw [List.length_append] at this
    omega
  · rw [h.2 (by omega)]; exact hd
set_option maxRecDepth 20000 in
set_option maxHeartbeats 2000000 in
theorem markText_any (n : Nat) (h0 : 0 < n) (h1 : n ≤ 10000000) (w : World) : Calls Tryd.prog 52 #[.int .i64 n] w fun e w' => e = .returned (.string (mt n)) ∧ Below w.heap.size w w' := by
  go_enter Tryd.func52, Tryd.ntmps52
  go_wp2_with fail
  go_loopg [0, 3] n (fun g s0 s3 wr => ∃ k : Nat, ∃ c : ByteArray, g = k ∧ k ≤ n ∧ s0 = .int .i64 k ∧ s3 = .string c ∧ Hid (MR n k c) ∧ Below w.heap.size w wr)
  case atStart => exact ⟨n, ByteArray.empty, rfl, Nat.le_refl _, rfl, rfl, Lib.hid ⟨fun _ => by rw [show ByteArray.empty.data.toList = [] from rfl, List.append_nil], fun h => by omega⟩, Below.refl _ _⟩
  case round =>
    obtain ⟨k, c, hgk, hkn, rfl, rfl, HM, hB⟩ := hrel
    subst hgk
    have hsz := HM.out.size
    by_cases hk : 0 < gk
    · have HN := Lib.hid (HM.out.step hk)
      obtain ⟨d, hd⟩ : ∃ d, gk % 10 = d := ⟨_, rfl⟩
      obtain ⟨q, hq⟩ : ∃ q, gk / 10 = q := ⟨_, rfl⟩
      have kd : (gk : Int) % 10 = (d : Int) := by omega
      have kq : (gk : Int) / 10 = (q : Int) := by omega
      have hd9 : d ≤ 9 := by omega
      have hqk : q < gk := by omega
      rw [hd, hq] at HN
      have hc := conv_dig wr d hd9 5 (0, 0)
      have hds1 : (dStr d).size = 1 := rfl
      generalize dStr d = ds at *
      clear hd hq
      go_wp2_with fail
      go_roundg q
      case measure => omega
      case rel => exact ⟨q, ds ++ c, rfl, by omega, by go_num, rfl, HN, hB.alloc hB.size _⟩
    · obtain rfl : gk = 0 := by omega
      have HE := Lib.hid (HM.out.2 rfl)
      go_wp2_with fail
      go_ret
      exact ⟨by
        have : mt n = ⟨#[109]⟩ ++ c := by
          unfold mt
          rw [show (109 :: Lib.decDigits n) = [109] ++ Lib.decDigits n from rfl, bStr_append, ← HE.out, bStr_of]
          rfl
        rw [this]; rfl, hB⟩

def mtV : Nat → Value := fun i => .string (mt (1 + i))
set_option maxRecDepth 20000 in
set_option maxHeartbeats 2000000 in
theorem markTexts (w : World) (base : Nat) (v : Value) (n : Nat) (U : Nat → Value) (h : Own w base 9 1 v n (rowV U n)) (hn : n ≤ 1000) :
    Calls Tryd.prog 23 #[v, .int .i64 1] w fun e' w' => e' = .returned (.int .i64 (1 + n)) ∧ Own w' base 9 1 v n (rowV mtV n) ∧ w.grownBy w' v.ownBlock := by
  rcases h.2 with ⟨rfl, hx⟩ | ⟨g, cap, cur, rfl, hb, hg, hnc, hcm, hcs, ht⟩
  · subst hx
    go_enter Tryd.func23, Tryd.ntmps23
    go_wp2
    refine wp_loop_rounds 1 ?_
    rw [rounds_succ]
    go_wp2
    go_ret
    exact ⟨rfl, Own.nil _ _ _ _, World.grownBy.refl _ _⟩
  · have hgl : g < w.heap.size := (Array.getElem?_eq_some_iff.1 hg).1
    have hsl0 : Own w base 9 1 (.slice (some ⟨g, 0, none⟩) n cap) n (rowV (mixV mtV U 0) n) := by rw [mixV_zero]; exact h
    clear hg hb hcs ht cur h
    unfold maxLen at hcm
    go_enter Tryd.func23, Tryd.ntmps23
    go_wp2_with fail
    go_loopg [1, 5] n (fun gh s1 s5 wr => ∃ i : Nat, gh + i = n ∧ s5 = .int .i64 i ∧ s1 = .int .i64 (1 + i : Nat) ∧ Own wr base 9 1 (.slice (some ⟨g, 0, none⟩) n cap) n (rowV (mixV mtV U i) n) ∧ w.grownBy wr (some g))
    case atStart => exact ⟨0, rfl, rfl, rfl, hsl0, World.grownBy.refl _ _⟩
    case round =>
      obtain ⟨i, hi, rfl, rfl, hown, hgr⟩ := hrel
      by_cases hlt : i < n
      · go_wp2_with fail
        refine (markText_any (1 + i) (by omega) (by omega) _).mono ?_
        rintro e w2 ⟨rfl, b2⟩
        have hown2 := hown.below b2
        have hgr2 := hgr.trans (grown_of_below b2 (some g))
        obtain ⟨g', cap', hv, _, _, _, _, hcell, hfz⟩ := hown2.at_ (by omega)
        cases hv
        have e1 := hcell i _ (rowV_at _ hlt)
        have e2 := hfz i
        have HO := Lib.hid (show Own (w2.setCell ⟨g, i, none⟩ (.string (mt (1 + i)))) base 9 1 (.slice (some ⟨g, 0, none⟩) n cap) n (rowV (mixV mtV U (i + 1)) n) by rw [← mixV_set mtV U hlt]; exact hown2.set_ i (by omega) _)
        clear hcell hfz hown hgr b2 hown2
        generalize mt (1 + i) = m at *
        go_wp2_with fail
        go_roundg (gk - 1)
        case measure => omega
        case rel => exact ⟨i + 1, by omega, by go_num, congrArg (Value.int .i64) (by omega), HO.out, hgr2.trans (grown_set _ ⟨g, i, none⟩ _)⟩
      · obtain rfl : i = n := by omega
        go_wp2_with fail
        go_ret
        exact ⟨rfl, by rw [mixV_all] at hown; exact hown, hgr⟩
set_option maxRecDepth 20000 in
set_option maxHeartbeats 2000000 in
theorem heldTexts (w : World) (B : Nat) (v : Value) (n : Nat) (h : Sl w B n v n mtV) (hn : n ≤ 1000) (hBw : B ≤ w.heap.size) :
    Calls Tryd.prog 24 #[v, .int .i64 1] w fun e' w' => e' = .returned (.int .i64 (1 + n)) ∧ Below w.heap.size w w' := by
  obtain ⟨A, c, rfl, l1, m1, r1⟩ := h
  have R1 := Lib.hid r1
  clear r1
  unfold maxLen at m1
  go_enter Tryd.func24, Tryd.ntmps24
  go_wp2_with fail
  go_loopg [1, 5] n (fun g s1 s5 wr => ∃ i : Nat, g + i = n ∧ s5 = .int .i64 i ∧ s1 = .int .i64 (1 + i : Nat) ∧ Below w.heap.size w wr)
  case atStart => exact ⟨0, rfl, rfl, rfl, Below.refl _ _⟩
  case round =>
    obtain ⟨i, hi, rfl, rfl, hB⟩ := hrel
    by_cases hlt : i < n
    · obtain ⟨b, o, rfl, hb, hc⟩ := R1.out (by omega)
      have hbw : b < w.heap.size := by omega
      have e1 := (hB.cell (p := ⟨b, o + i, none⟩) hbw).trans (hc i hlt)
      simp only [mtV] at e1
      have i1 : (i : Int) < (n : Int) := by omega
      have w1' : b < wr.heap.size := by have := hB.size; omega
      have HB := Lib.hid hB
      have HM := Lib.hid fun W => markText_any (1 + i) (by omega) (by omega) W
      clear hB hc
      generalize mt (1 + i) = m at *
      go_wp2_with fail
      go_region_held3 (fun w' => w'.cell? ⟨b, o + i, none⟩ = some (.string m))
        (go_keep)
        (first | (go_at_call 52; refine (HM.out _).mono ?_; rintro e w2 ⟨rfl, q2⟩; have g0 := (q2.cell (p := ⟨b, o + i, none⟩) w1').trans e1))
      go_wp2_with fail
      go_roundg (gk - 1)
      case measure => omega
      case rel => exact ⟨i + 1, by omega, by go_num, congrArg (Value.int .i64) (by omega), by first | exact below_own HB.out q2 HB.out.size | exact below_own HB.out.drew q2 HB.out.size⟩
    · obtain rfl : i = n := by omega
      go_wp2_with fail
      go_ret
      exact ⟨rfl, hB⟩
end Go.Proofs.YtfmfjbphflkhiaaDoor
