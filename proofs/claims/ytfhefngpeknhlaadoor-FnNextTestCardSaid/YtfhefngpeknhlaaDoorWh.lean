/- The numbers of ways that something holds of: the walk of which, for each closure that it is handed; the list of a row's own. -/
import Derived.Test.YtfhefngpeknhlaaDoorTkw
import Derived.Test.YtfhefngpeknhlaaDoorStrS
namespace Go.Proofs.YtfhefngpeknhlaaDoor
set_option linter.unusedVariables false
set_option linter.unusedSimpArgs false
open Go.RowKit

theorem clipInt_any (v : Value) (n : Nat) (base : Nat) (xs : List Value) (w : World) (h : Own w base 3 1 v n xs) :
    Calls Tryd.prog 101 #[v] w fun e w' => ∃ v', e = .returned v' ∧ Own w' base 3 1 v' n xs ∧ w = w' := by
  obtain ⟨h1, h2⟩ := h
  rcases h2 with ⟨rfl, rfl⟩ | ⟨g, cap, cur, rfl, hb, hg, hnc, hcm, hcs, ht⟩
  · go_enter Tryd.func101, Tryd.ntmps101
    go_wp2_with fail
    go_ret
    exact ⟨_, rfl, ⟨h1, .inl ⟨rfl, rfl⟩⟩, rfl⟩
  · have hcm' := hcm
    unfold maxLen at hcm'
    go_enter Tryd.func101, Tryd.ntmps101
    go_wp2_with fail
    go_ret
    exact ⟨_, rfl, ⟨h1, .inr ⟨g, n, cur, rfl, hb, hg, Nat.le_refl _, by omega, hcs, ht⟩⟩, rfl⟩

/-- The numbers below k that p holds of. -/
def whL (p : Nat → Bool) (k : Nat) : List Int := ((List.range k).filter p).map fun i : Nat => (i : Int)
theorem whL_yes {p : Nat → Bool} {k : Nat} (h : p k = true) : whL p (k + 1) = whL p k ++ [(k : Int)] := by
  simp [whL, List.range_succ, List.filter_append, h]
theorem whL_no {p : Nat → Bool} {k : Nat} (h : p k = false) : whL p (k + 1) = whL p k := by
  simp [whL, List.range_succ, List.filter_append, h]
theorem whL_length (p : Nat → Bool) (k : Nat) : (whL p k).length ≤ k := by
  unfold whL
  rw [List.length_map]
  exact Nat.le_trans (List.length_filter_le _ _) (by rw [List.length_range]; exact Nat.le_refl _)
theorem infoIntW : (Tryd.prog.info? 3).map (fun i => (i.zero, i.size, i.bytes)) = some (some (.int .i64 0), 1, 8) := by kernel_rfl
def IntsP (xs : List Int) (w : World) (e : Ending) (w' : World) : Prop := ∃ v, e = .returned v ∧ Own w' w.heap.size 3 1 v xs.length (xs.map (Value.int .i64)) ∧ Below w.heap.size w w'

set_option maxRecDepth 20000 in
set_option maxHeartbeats 4000000 in
theorem which_silent (w : World) (p : Nat → Bool) (B : Nat) (hBw : B ≤ w.heap.size) (b1 b2 : Nat)
    (hp : ∀ k : Nat, k < 16 → ∀ W, Below B w W → Calls Tryd.prog 73 #[.int .i64 k, .pointer (some ⟨b1, 0, none⟩), .pointer (some ⟨b2, 0, none⟩)] W fun e w' => e = .returned (.bool (p k)) ∧ Below W.heap.size W w') :
    Calls Tryd.prog 64 #[.func (.func 73) #[] #[.pointer (some ⟨b1, 0, none⟩), .pointer (some ⟨b2, 0, none⟩)]] w (IntsP (whL p 16) w) := by
  obtain ⟨i0, hi, hz0, hz1, hz2⟩ := info_parts infoIntW
  have HP := Lib.hid hp
  clear hp
  go_enter Tryd.func64, Tryd.ntmps64
  go_wp2_with fail
  go_loopg [3, 4, 5] 16 (fun g s3 s4 s5 wr => ∃ k : Nat, g + k = 16 ∧ s5 = .int .i64 k ∧ wr.ownsRow w.heap.size 3 1 s3 (whL p k).length ((whL p k).map (Value.int .i64)) ∧ Below w.heap.size w wr)
  case atStart => exact ⟨0, rfl, rfl, World.ownsRow_nil _ _ _ _, Below.refl _ _⟩
  case round =>
    obtain ⟨k, hk, rfl, hown, hB⟩ := hrel
    have hlen := whL_length p k
    by_cases hlt : k < 16
    · have HK := Lib.hid (HP.out k hlt wr (hB.mono hBw))
      have HOwn := Lib.hid hown
      have HBel := Lib.hid hB
      clear hown hB
      cases hpk : p k with
      | true =>
        have HS := Lib.hid (whL_yes hpk)
        rw [hpk] at HK
        clear hpk
        go_wp2_with fail
        refine HK.out.mono ?_
        rintro e w1 ⟨rfl, q1⟩
        have hown1 := own_below HOwn.out q1
        have hB1 := below_own HBel.out q1 HBel.out.size
        go_wp2_with (at_builtin; refine wpList_append_own _ rfl _ _ 35 rfl w.heap.size 3 i0 (.int .i64 0) 1 8 Tryd.underlying35 hi hz0 hz1 hz2 rfl (by decide) _ _ _ rfl (hown1.alloc _) ⟨w1.heap.size, 0, none⟩ 1 1 [.int .i64 k] rfl rfl (cell_one_new _ _ _) (by simp [Value.oneCell']) (by unfold maxLen; omega) (by omega) (by have := hB1.size; simp; omega) ?_; intro v' w2 hown' hgrow _)
        have hB2 := (hB1.alloc hB1.size (.cells #[.int .i64 (k : Int)] 3)).grown hgrow (by have := hB1.size; simp; omega) (fun j hj => (hown1.lt j hj).1)
        go_roundg (gk - 1)
        case measure => omega
        case rel => exact ⟨k + 1, by omega, by go_num, by rw [HS.out, List.length_append, List.map_append]; exact hown', hB2⟩
      | false =>
        have HS := Lib.hid (whL_no hpk)
        rw [hpk] at HK
        clear hpk
        go_wp2_with fail
        refine HK.out.mono ?_
        rintro e w1 ⟨rfl, q1⟩
        have hown1 := own_below HOwn.out q1
        have hB1 := below_own HBel.out q1 HBel.out.size
        go_wp2_with fail
        go_roundg (gk - 1)
        case measure => omega
        case rel => exact ⟨k + 1, by omega, by go_num, by rw [HS.out]; exact hown1, hB1⟩
    · obtain rfl : k = 16 := by omega
      go_wp2_with fail
      refine (clipInt_any _ _ _ _ _ (Own.of_row hown)).mono ?_
      rintro e w2 ⟨v', rfl, ho', rfl⟩
      go_wp2_with fail
      go_ret
      exact ⟨_, rfl, ho', hB⟩

set_option maxRecDepth 20000 in
set_option maxHeartbeats 4000000 in
theorem which_ways (w : World) (p : Nat → Bool) (B : Nat) (hBw : B ≤ w.heap.size) (b1 : Nat)
    (hp : ∀ k : Nat, k < 16 → ∀ W, Below B w W → Calls Tryd.prog 65 #[.int .i64 k, .pointer (some ⟨b1, 0, none⟩)] W fun e w' => e = .returned (.bool (p k)) ∧ Below W.heap.size W w') :
    Calls Tryd.prog 64 #[.func (.func 65) #[] #[.pointer (some ⟨b1, 0, none⟩)]] w (IntsP (whL p 16) w) := by
  obtain ⟨i0, hi, hz0, hz1, hz2⟩ := info_parts infoIntW
  have HP := Lib.hid hp
  clear hp
  go_enter Tryd.func64, Tryd.ntmps64
  go_wp2_with fail
  go_loopg [3, 4, 5] 16 (fun g s3 s4 s5 wr => ∃ k : Nat, g + k = 16 ∧ s5 = .int .i64 k ∧ wr.ownsRow w.heap.size 3 1 s3 (whL p k).length ((whL p k).map (Value.int .i64)) ∧ Below w.heap.size w wr)
  case atStart => exact ⟨0, rfl, rfl, World.ownsRow_nil _ _ _ _, Below.refl _ _⟩
  case round =>
    obtain ⟨k, hk, rfl, hown, hB⟩ := hrel
    have hlen := whL_length p k
    by_cases hlt : k < 16
    · have HK := Lib.hid (HP.out k hlt wr (hB.mono hBw))
      have HOwn := Lib.hid hown
      have HBel := Lib.hid hB
      clear hown hB
      cases hpk : p k with
      | true =>
        have HS := Lib.hid (whL_yes hpk)
        rw [hpk] at HK
        clear hpk
        go_wp2_with fail
        refine HK.out.mono ?_
        rintro e w1 ⟨rfl, q1⟩
        have hown1 := own_below HOwn.out q1
        have hB1 := below_own HBel.out q1 HBel.out.size
        go_wp2_with (at_builtin; refine wpList_append_own _ rfl _ _ 35 rfl w.heap.size 3 i0 (.int .i64 0) 1 8 Tryd.underlying35 hi hz0 hz1 hz2 rfl (by decide) _ _ _ rfl (hown1.alloc _) ⟨w1.heap.size, 0, none⟩ 1 1 [.int .i64 k] rfl rfl (cell_one_new _ _ _) (by simp [Value.oneCell']) (by unfold maxLen; omega) (by omega) (by have := hB1.size; simp; omega) ?_; intro v' w2 hown' hgrow _)
        have hB2 := (hB1.alloc hB1.size (.cells #[.int .i64 (k : Int)] 3)).grown hgrow (by have := hB1.size; simp; omega) (fun j hj => (hown1.lt j hj).1)
        go_roundg (gk - 1)
        case measure => omega
        case rel => exact ⟨k + 1, by omega, by go_num, by rw [HS.out, List.length_append, List.map_append]; exact hown', hB2⟩
      | false =>
        have HS := Lib.hid (whL_no hpk)
        rw [hpk] at HK
        clear hpk
        go_wp2_with fail
        refine HK.out.mono ?_
        rintro e w1 ⟨rfl, q1⟩
        have hown1 := own_below HOwn.out q1
        have hB1 := below_own HBel.out q1 HBel.out.size
        go_wp2_with fail
        go_roundg (gk - 1)
        case measure => omega
        case rel => exact ⟨k + 1, by omega, by go_num, by rw [HS.out]; exact hown1, hB1⟩
    · obtain rfl : k = 16 := by omega
      go_wp2_with fail
      refine (clipInt_any _ _ _ _ _ (Own.of_row hown)).mono ?_
      rintro e w2 ⟨v', rfl, ho', rfl⟩
      go_wp2_with fail
      go_ret
      exact ⟨_, rfl, ho', hB⟩

set_option maxRecDepth 20000 in
set_option maxHeartbeats 4000000 in
theorem which_apart (w : World) (p : Nat → Bool) (B : Nat) (hBw : B ≤ w.heap.size) 
    (hp : ∀ k : Nat, k < 16 → ∀ W, Below B w W → Calls Tryd.prog 78 #[.int .i64 k] W fun e w' => e = .returned (.bool (p k)) ∧ Below W.heap.size W w') :
    Calls Tryd.prog 64 #[.func (.func 78) #[] #[]] w (IntsP (whL p 16) w) := by
  obtain ⟨i0, hi, hz0, hz1, hz2⟩ := info_parts infoIntW
  have HP := Lib.hid hp
  clear hp
  go_enter Tryd.func64, Tryd.ntmps64
  go_wp2_with fail
  go_loopg [3, 4, 5] 16 (fun g s3 s4 s5 wr => ∃ k : Nat, g + k = 16 ∧ s5 = .int .i64 k ∧ wr.ownsRow w.heap.size 3 1 s3 (whL p k).length ((whL p k).map (Value.int .i64)) ∧ Below w.heap.size w wr)
  case atStart => exact ⟨0, rfl, rfl, World.ownsRow_nil _ _ _ _, Below.refl _ _⟩
  case round =>
    obtain ⟨k, hk, rfl, hown, hB⟩ := hrel
    have hlen := whL_length p k
    by_cases hlt : k < 16
    · have HK := Lib.hid (HP.out k hlt wr (hB.mono hBw))
      have HOwn := Lib.hid hown
      have HBel := Lib.hid hB
      clear hown hB
      cases hpk : p k with
      | true =>
        have HS := Lib.hid (whL_yes hpk)
        rw [hpk] at HK
        clear hpk
        go_wp2_with fail
        refine HK.out.mono ?_
        rintro e w1 ⟨rfl, q1⟩
        have hown1 := own_below HOwn.out q1
        have hB1 := below_own HBel.out q1 HBel.out.size
        go_wp2_with (at_builtin; refine wpList_append_own _ rfl _ _ 35 rfl w.heap.size 3 i0 (.int .i64 0) 1 8 Tryd.underlying35 hi hz0 hz1 hz2 rfl (by decide) _ _ _ rfl (hown1.alloc _) ⟨w1.heap.size, 0, none⟩ 1 1 [.int .i64 k] rfl rfl (cell_one_new _ _ _) (by simp [Value.oneCell']) (by unfold maxLen; omega) (by omega) (by have := hB1.size; simp; omega) ?_; intro v' w2 hown' hgrow _)
        have hB2 := (hB1.alloc hB1.size (.cells #[.int .i64 (k : Int)] 3)).grown hgrow (by have := hB1.size; simp; omega) (fun j hj => (hown1.lt j hj).1)
        go_roundg (gk - 1)
        case measure => omega
        case rel => exact ⟨k + 1, by omega, by go_num, by rw [HS.out, List.length_append, List.map_append]; exact hown', hB2⟩
      | false =>
        have HS := Lib.hid (whL_no hpk)
        rw [hpk] at HK
        clear hpk
        go_wp2_with fail
        refine HK.out.mono ?_
        rintro e w1 ⟨rfl, q1⟩
        have hown1 := own_below HOwn.out q1
        have hB1 := below_own HBel.out q1 HBel.out.size
        go_wp2_with fail
        go_roundg (gk - 1)
        case measure => omega
        case rel => exact ⟨k + 1, by omega, by go_num, by rw [HS.out]; exact hown1, hB1⟩
    · obtain rfl : k = 16 := by omega
      go_wp2_with fail
      refine (clipInt_any _ _ _ _ _ (Own.of_row hown)).mono ?_
      rintro e w2 ⟨v', rfl, ho', rfl⟩
      go_wp2_with fail
      go_ret
      exact ⟨_, rfl, ho', hB⟩

end Go.Proofs.YtfhefngpeknhlaaDoor
