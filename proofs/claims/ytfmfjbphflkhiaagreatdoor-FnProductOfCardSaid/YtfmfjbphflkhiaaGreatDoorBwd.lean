/- slices.Backward over columns: the iterator's contract; what written says. -/
import Derived.Test.YtfmfjbphflkhiaaGreatDoorRecs
import Derived.RangeFuncNested
import Derived.RangeFuncBox
import Derived.RangeFuncLeaves
import Derived.RangeFuncBound
import Derived.RangeFuncCalls
import Derived.Shelf.Abstract
import Derived.WalkKit
import Derived.OwnWalkIn
import Derived.TacticsInMore
import Derived.LoopNIn
import Derived.LoopIn
import Derived.Maps.AppendAt
import Derived.Test.YtfmfjbphflkhiaaGreatDoorBase
namespace Go.Proofs.YtfmfjbphflkhiaaGreatDoor
set_option linter.unusedVariables false
set_option linter.unusedSimpArgs false
open Go.RowKit Go.Shelf

attribute [local go_sem] Oper.semAt_some

/-- What has come when k rounds are over: the last places of n. -/
def upI (n k : Nat) : List Nat := (List.range k).map fun j => n - 1 - j
theorem upI_succ (n k : Nat) : upI n (k + 1) = upI n k ++ [n - 1 - k] := by simp [upI, List.range_succ]
theorem upI_length (n k : Nat) : (upI n k).length = k := by simp [upI]
/-- A column handed on. -/
def encC (F : Nat → Nat → Int) (x : Nat) : Array Value := #[.int .i64 (x : Int), .agg #[.int .i64 (F x 0), .int .i64 (F x 1), .int .i64 (F x 2), .int .i64 (F x 3), .int .i64 (F x 4)]]
/-- What a round keeps. -/
def KpB (n₀ Bs : Nat) (A B : World) : Prop := Below n₀ A B ∧ B.heap[Bs]? = A.heap[Bs]?
theorem KpB.trans {n₀ Bs : Nat} {A B C : World} (h : KpB n₀ Bs A B) (h' : KpB n₀ Bs B C) : KpB n₀ Bs A C := ⟨h.1.trans h'.1, h'.2.trans h.2⟩

set_option maxRecDepth 100000 in
set_option maxHeartbeats 4000000 in
theorem bwd1_in (m : Nat) (hm : 1 ≤ m) (l Bs n₀ len cap : Nat) (A : Option Addr) (F : Nat → Nat → Int) (hlen : len ≤ 1000) (J Jx : List Nat → World → Prop)
    (hY : ∀ pre x W, J pre W → pre.length < len → YieldAt Fence.wide (m - 1) Tryz.prog l (encC F x) W fun e W' =>
      (e = .returned (.bool true) ∧ J (pre ++ [x]) W' ∧ KpB n₀ Bs W W') ∨ (e = .returned (.bool false) ∧ Jx (pre ++ [x]) W'))
    (W : World) (hBs : Boxed W Bs 40 (.slice A len cap)) (hR : Recs W n₀ (.slice A len cap) len 5 (IV F)) (h0 : J [] W) :
    CallsIn Fence.wide m Tryz.prog 89 #[.func (.yield l) #[] #[], .pointer (some ⟨Bs, 0, none⟩)] W fun e W' => (∃ v, e = .returned v) ∧
      ((∃ ys, ys = upI len len ∧ J ys W') ∨ (∃ pre, (∃ k, k ≤ len ∧ pre = upI len k) ∧ Jx pre W')) := by
  refine callsIn_of_wp Tryz.func89 rfl trivial ?_ rfl
  simp only [Tryz.ntmps89, List.size_toArray, List.length_cons, List.length_nil, Nat.reduceAdd, Nat.reduceSub, Array.replicate_succ, Array.replicate_zero, List.push_toArray, List.append_toArray, List.nil_append, List.cons_append]
  have hc0 := hBs.cell
  gi_wp2
  gi_loopw [3] (fun i wr => ∃ k : Nat, k ≤ len ∧ i = .int .i64 ((len : Int) - 1 - k) ∧ J (upI len k) wr ∧ KpB n₀ Bs W wr)
    (fun i _ => (intOf i + 1).toNat)
  case atStart => exact ⟨0, Nat.zero_le _, by simp, h0, Below.refl _ _, rfl⟩
  case round =>
    obtain ⟨k, hk, rfl, hJs, hnx⟩ := hrel
    by_cases hlt : k < len
    · obtain ⟨fn, tmps, assign, body, hy, hRd⟩ := hY _ (len - 1 - k) wr hJs (by rw [upI_length]; exact hlt)
      obtain ⟨A', cap', hv, hnc, hcm, hcell⟩ := hR.below hnx.1 (Nat.le_refl _)
      cases hv
      unfold maxLen at hcm
      obtain ⟨b, o, rfl, hb, hc⟩ := hcell (by omega)
      have hx : len - 1 - k < len := by omega
      have e0 := hc (len - 1 - k) hx 0 (by omega)
      have e1 := hc (len - 1 - k) hx 1 (by omega)
      have e2 := hc (len - 1 - k) hx 2 (by omega)
      have e3 := hc (len - 1 - k) hx 3 (by omega)
      have e4 := hc (len - 1 - k) hx 4 (by omega)
      simp only [IV, Nat.add_zero] at e0 e1 e2 e3 e4
      have hbx : Boxed wr Bs 40 (.slice (some ⟨b, o, none⟩) len cap) := hnx.2.trans hBs
      have hcb := hbx.cell
      have hki : (len : Int) - 1 - (k : Int) = ((len - 1 - k : Nat) : Int) := by omega
      obtain ⟨x, hxx⟩ : ∃ x, len - 1 - k = x := ⟨_, rfl⟩
      have hup := upI_succ len k
      rw [hxx] at hki hy hRd e0 e1 e2 e3 e4 hx hup
      rw [hki]
      have hx0 : (0 : Int) ≤ (x : Int) := by omega
      have hxl : (x : Int) < (len : Int) := by omega
      dsimp only [encC] at hy
      clear hc hcell hY
      gi_wp2
      refine hRd.mono ?_
      rintro e W3 (⟨rfl, hJ3, hk3⟩ | ⟨rfl, hJx3⟩)
      · gi_wp2
        go_roundw
        case rel => exact ⟨k + 1, by omega, by first | (simp; done) | (simp; omega), by rw [hup]; exact hJ3, hnx.trans hk3⟩
        case measure => first | (simp [intOf]; done) | (simp [intOf]; omega)
      · gi_wp2
        refine bodyPost_ret (results_none rfl _ _ _) rfl ?_
        exact ⟨⟨_, rfl⟩, .inr ⟨_, ⟨k + 1, by omega, hup.symm⟩, hJx3⟩⟩
    · obtain rfl : k = len := by omega
      have hki : (k : Int) - 1 - (k : Int) = -1 := by omega
      rw [hki]
      gi_wp2
      go_end0
      exact ⟨⟨_, rfl⟩, .inl ⟨_, rfl, hJs⟩⟩

set_option maxHeartbeats 1000000 in
theorem bwd_in (m : Nat) (a : Option Addr) (len cap : Nat) (w : World) :
    CallsIn Fence.wide m Tryz.prog 73 #[.slice a len cap] w fun e w' => e = .returned (.func (.func 89) #[] #[.pointer (some ⟨w.heap.size, 0, none⟩)]) ∧ w' = w.alloc (.cells #[.slice a len cap] 40) := by
  refine callsIn_of_wp Tryz.func73 rfl trivial ?_ rfl
  simp only [Tryz.ntmps73, List.size_toArray, List.length_cons, List.length_nil, Nat.reduceAdd, Nat.reduceSub, Array.replicate_succ, Array.replicate_zero, List.push_toArray, List.append_toArray, List.nil_append, List.cons_append]
  gi_wp2
  go_ret
  exact ⟨rfl, rfl⟩

theorem bwd_stops (m : Nat) (hm : 1 ≤ m) (Bs n₀ len cap : Nat) (A : Option Addr) (F : Nat → Nat → Int) (hlen : len ≤ 1000) (w : World) (hBs : Boxed w Bs 40 (.slice A len cap)) (hn₀ : n₀ ≤ w.heap.size)
    (hR : Recs w n₀ (.slice A len cap) len 5 (IV F)) :
    SeqStopsK Fence.wide m Tryz.prog 89 #[.pointer (some ⟨Bs, 0, none⟩)] (encC F) (KpB n₀ Bs) (fun ys => ys = upI len len) (fun pre => ∃ k, k ≤ len ∧ pre = upI len k) len w := fun l J Jx W hW _ _ hY h0 =>
  bwd1_in m hm l Bs n₀ len cap A F hlen J Jx hY W ((hW.block Bs hBs.lt).trans hBs) (hR.below hW hn₀) h0

theorem written_any (a b c d e0 : Int) (w : World) : Calls Tryz.prog 55 #[.agg #[.int .i64 a, .int .i64 b, .int .i64 c, .int .i64 d, .int .i64 e0]] w fun e w' => e = .returned (.int .i64 d) ∧ w' = w.alloc (.cells #[.int .i64 a, .int .i64 b, .int .i64 c, .int .i64 d, .int .i64 e0] 58) := by
  go_enter Tryz.func55, Tryz.ntmps55
  go_wp2_with fail
  go_ret
  exact ⟨rfl, rfl⟩
end Go.Proofs.YtfmfjbphflkhiaaGreatDoor
