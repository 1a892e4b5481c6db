/- The laws' own helpers on lists of numbers: equal, marked, still marked. -/
import Derived.Test.YtfhefngpeknhlaaDoorBase
import Derived.Test.YtfhefngpeknhlaaDoorMem
namespace Go.Proofs.YtfhefngpeknhlaaDoor
set_option linter.unusedVariables false
set_option linter.unusedSimpArgs false
open Go.RowKit

theorem below_drewN {B : Nat} {a w : World} (h : Below B a w) (n : Nat) : Below B a (w.drewN n) := ⟨h.os, h.tape, h.output, h.size, h.block⟩

/-- A slice value that reads as a list of numbers. -/
def IntSl (w : World) (B : Nat) (v : Value) (xs : List Int) : Prop := Sl w B xs.length v xs.length (fun j => .int .i64 (xs.getD j 0))
theorem IntSl.of_own {w : World} {base : Nat} {e : TypeId} {v : Value} {xs : List Int} (h : Own w base e 1 v xs.length (xs.map (Value.int .i64))) : IntSl w w.heap.size v xs := by
  have h1 := Sl.of_own h
  rw [Nat.mul_one] at h1
  exact h1.congr fun j hj => by simp [List.getD_eq_getElem?_getD, hj]

theorem IntSl.below {w w' : World} {B B' : Nat} {v : Value} {xs : List Int} (h : IntSl w B v xs) (hb : Below B' w w') (hB : B ≤ B') : IntSl w' B v xs := Sl.below h (hb.mono hB)
theorem IntSl.grown {w w' : World} {B : Nat} {v : Value} {xs : List Int} (h : IntSl w B v xs) {row : Option Nat} (hg : w.grownBy w' row) (hB : B ≤ w.heap.size) (hr : ∀ k, row = some k → B ≤ k) : IntSl w' B v xs := Sl.grown h hg hB hr
theorem IntSl.mono {w : World} {B B' : Nat} {v : Value} {xs : List Int} (h : IntSl w B v xs) (hB : B ≤ B') : IntSl w B' v xs := Sl.mono h hB
set_option maxHeartbeats 1000000 in
theorem eqInts (w : World) (B : Nat) (v1 v2 : Value) (xs : List Int) (h1 : IntSl w B v1 xs) (h2 : IntSl w B v2 xs) :
    Calls Tryd.prog 37 #[v1, v2] w fun e w' => e = .returned (.bool true) ∧ Below w.heap.size w w' := by
  obtain ⟨A1, c1, rfl, l1, m1, r1⟩ := h1
  obtain ⟨A2, c2, rfl, l2, m2, r2⟩ := h2
  generalize hn : xs.length = n at *
  clear hn
  unfold maxLen at m1 m2
  go_enter Tryd.func37, Tryd.ntmps37
  go_wp2
  go_loopg [5] n (fun g i wr => ∃ k q : Nat, g + k = n ∧ i = .int .i64 k ∧ wr = w.drewN q)
  case atStart => exact ⟨0, 0, rfl, rfl, rfl⟩
  case round =>
    obtain ⟨k, q, hk, rfl, rfl⟩ := hrel
    by_cases hlt : k < n
    · obtain ⟨b1, o1, rfl, hb1, hc1⟩ := r1 (by omega)
      obtain ⟨b2, o2, rfl, hb2, hc2⟩ := r2 (by omega)
      have e1 := hc1 k hlt
      have e2 := hc2 k hlt
      clear hc1 hc2
      have hi : (k : Int) < (n : Int) := by omega
      go_wp2_with fail
      go_quiet (fail)
      go_wp2
      go_roundg (gk - 1)
      case measure => omega
      case rel => exact ⟨k + 1, _, by omega, by go_num, rfl⟩
    · obtain rfl : k = n := by omega
      go_wp2
      go_ret
      exact ⟨rfl, below_drewN (Below.refl _ _) _⟩
set_option maxHeartbeats 1000000 in
theorem sameInts (w : World) (B : Nat) (v1 v2 : Value) (xs : List Int) (h1 : IntSl w B v1 xs) (h2 : IntSl w B v2 xs) :
    Calls Tryd.prog 24 #[v1, v2] w fun e w' => e = .returned (.bool true) ∧ Below w.heap.size w w' := by
  obtain ⟨A1, c1, rfl, l1, m1, r1⟩ := h1
  obtain ⟨A2, c2, rfl, l2, m2, r2⟩ := h2
  generalize hn : xs.length = n at *
  clear hn
  unfold maxLen at m1 m2
  go_enter Tryd.func24, Tryd.ntmps24
  go_wp2
  go_loopg [5] n (fun g i wr => ∃ k q : Nat, g + k = n ∧ i = .int .i64 k ∧ wr = w.drewN q)
  case atStart => exact ⟨0, 0, rfl, rfl, rfl⟩
  case round =>
    obtain ⟨k, q, hk, rfl, rfl⟩ := hrel
    by_cases hlt : k < n
    · obtain ⟨b1, o1, rfl, hb1, hc1⟩ := r1 (by omega)
      obtain ⟨b2, o2, rfl, hb2, hc2⟩ := r2 (by omega)
      have e1 := hc1 k hlt
      have e2 := hc2 k hlt
      clear hc1 hc2
      have hi : (k : Int) < (n : Int) := by omega
      go_wp2_with fail
      go_quiet (fail)
      go_wp2
      go_roundg (gk - 1)
      case measure => omega
      case rel => exact ⟨k + 1, _, by omega, by go_num, rfl⟩
    · obtain rfl : k = n := by omega
      go_wp2
      go_ret
      exact ⟨rfl, below_drewN (Below.refl _ _) _⟩
/-- What is written: k, k + 1 and so on. -/
def marks (k : Int) (n : Nat) : List Int := (List.range n).map fun j : Nat => k + (j : Int)
theorem marks_length (k : Int) (n : Nat) : (marks k n).length = n := by simp [marks]
/-- After i marks. -/
def marked (k : Int) (xs : List Int) (i : Nat) : List Value := ((marks k i) ++ xs.drop i).map (Value.int .i64)
theorem marked_zero (k : Int) (xs : List Int) : marked k xs 0 = xs.map (Value.int .i64) := by simp [marked, marks]
theorem marked_all (k : Int) (xs : List Int) : marked k xs xs.length = (marks k xs.length).map (Value.int .i64) := by simp [marked]
theorem marked_succ (k : Int) (xs : List Int) (i : Nat) (h : i < xs.length) : (marked k xs i).set i (.int .i64 (k + i)) = marked k xs (i + 1) := by
  unfold marked marks
  rw [← List.map_set, List.drop_eq_getElem_cons h, List.range_succ, List.map_append]
  congr 1
  rw [List.set_append_right _ _ (by simp)]
  simp only [List.length_map, List.length_range, Nat.sub_self, List.set_cons_zero]
  simp
set_option maxHeartbeats 1000000 in
theorem markInts (w : World) (base e : Nat) (v : Value) (xs : List Int) (k : Int) (h : Own w base e 1 v xs.length (xs.map (Value.int .i64))) (hk0 : 0 ≤ k) (hk1 : k + xs.length < 1000000000) :
    Calls Tryd.prog 38 #[v, .int .i64 k] w fun e' w' => e' = .returned (.int .i64 (k + xs.length)) ∧ Own w' base e 1 v xs.length ((marks k xs.length).map (Value.int .i64)) ∧ w.grownBy w' v.ownBlock := by
  have hsl := h
  rcases h.2 with ⟨rfl, hx⟩ | ⟨g, cap, cur, rfl, hb, hg, hnc, hcm, hcs, ht⟩
  · have hx' : xs = [] := List.eq_nil_of_length_eq_zero hx
    subst hx'
    go_enter Tryd.func38, Tryd.ntmps38
    go_wp2
    refine wp_loop_rounds 1 ?_
    rw [rounds_succ]
    go_wp2
    go_ret
    exact ⟨by simp, Own.nil _ _ _ _, World.grownBy.refl _ _⟩
  · have hgl : g < w.heap.size := (Array.getElem?_eq_some_iff.1 hg).1
    clear hg hb hcs ht cur h
    have hsl0 : Own w base e 1 (.slice (some ⟨g, 0, none⟩) xs.length cap) xs.length (marked k xs 0) := by rw [marked_zero]; exact hsl
    clear hsl
    obtain ⟨n, hn⟩ : ∃ n, n = xs.length := ⟨_, rfl⟩
    have Hn := Lib.hid hn
    rw [← hn] at hsl0 hk1 hnc ⊢
    clear hn
    unfold maxLen at hcm
    go_enter Tryd.func38, Tryd.ntmps38
    go_wp2
    go_loopg [1, 5] n (fun gh s1 s5 wr => ∃ i : Nat, gh + i = n ∧ s5 = .int .i64 i ∧ s1 = .int .i64 (k + i) ∧ Own wr base e 1 (.slice (some ⟨g, 0, none⟩) n cap) n (marked k xs i) ∧ w.grownBy wr (some g))
    case atStart => exact ⟨0, rfl, rfl, by simp, hsl0, World.grownBy.refl _ _⟩
    case round =>
      obtain ⟨i, hi, rfl, rfl, hown, hgr⟩ := hrel
      by_cases hlt : i < n
      · obtain ⟨g', cap', hv, _, _, _, _, hcell, hfz⟩ := hown.at_ (by omega)
        cases hv
        have hlen : i < (marked k xs i).length := by have := hown.1; omega
        have e1 := hcell i _ (List.getElem?_eq_getElem hlen)
        have e2 := hfz i
        clear hcell hfz
        go_wp2
        go_roundg (gk - 1)
        case measure => omega
        case rel => exact ⟨i + 1, by omega, by go_num, by rw [show (k + ((i + 1 : Nat) : Int)) = k + i + 1 from by omega], by rw [← marked_succ k xs i (by rw [← Hn.out]; exact hlt)]; exact hown.set_ i (by omega) _, hgr.trans (grown_set _ ⟨g, i, none⟩ _)⟩
      · obtain rfl : i = n := by omega
        go_wp2
        go_ret
        refine ⟨rfl, ?_, hgr⟩
        have e := Hn.out
        subst e
        rw [← marked_all]; exact hown
theorem marks_at (k : Int) {n j : Nat} (h : j < n) : (marks k n).getD j 0 = k + j := by simp [marks, List.getD_eq_getElem?_getD, h]
set_option maxHeartbeats 1000000 in
theorem heldInts (w : World) (B : Nat) (v : Value) (k : Int) (n : Nat) (h : IntSl w B v (marks k n)) (hk0 : 0 ≤ k) (hk1 : k + n < 1000000000) :
    Calls Tryd.prog 39 #[v, .int .i64 k] w fun e' w' => e' = .returned (.int .i64 (k + n)) ∧ w = w' := by
  obtain ⟨A, c, rfl, l1, m1, r1⟩ := h
  rw [marks_length] at l1 r1 ⊢
  unfold maxLen at m1
  go_enter Tryd.func39, Tryd.ntmps39
  go_wp2
  go_loop [1, 5] (fun s1 s5 => ∃ i : Nat, i ≤ n ∧ s5 = .int .i64 i ∧ s1 = .int .i64 (k + i)) (fun _ s5 => n - (intOf s5).toNat)
  case atStart => exact ⟨0, by omega, rfl, by simp⟩
  case round =>
    obtain ⟨i, hi, rfl, rfl⟩ := hrel
    by_cases hlt : i < n
    · obtain ⟨b, o, rfl, hb, hc⟩ := r1 (by omega)
      have e1 := hc i hlt
      rw [marks_at k hlt] at e1
      clear hc
      go_wp2
      go_round
      case rel => exact ⟨i + 1, by omega, by go_num, by rw [show (k + ((i + 1 : Nat) : Int)) = k + i + 1 from by omega]⟩
      case measure => simp [intOf]; omega
    · obtain rfl : i = n := by omega
      go_wp2
      go_ret
      exact ⟨rfl, rfl⟩
end Go.Proofs.YtfhefngpeknhlaaDoor
