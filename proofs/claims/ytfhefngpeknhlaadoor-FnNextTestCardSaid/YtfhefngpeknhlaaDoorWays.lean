/- The walks of WaysFor, of the program (a closure over the list) and of the reference. -/
import Derived.Test.YtfhefngpeknhlaaDoorWh
import Derived.Test.YtfhefngpeknhlaaDoorExp2
namespace Go.Proofs.YtfhefngpeknhlaaDoor
set_option linter.unusedVariables false
set_option linter.unusedSimpArgs false
open Go.RowKit

def wayL (S : Nat → Nat → ByteArray) (n : Nat) : List Int := whL (fun k => expB S n k) 16
set_option maxRecDepth 20000 in
set_option maxHeartbeats 2000000 in
theorem ways_cl (A : Option Addr) (n cap : Nat) (S : Nat → Nat → ByteArray) (b1 B : Nat) (way : Int) (hS : ∀ i, i < n → ∀ j, j < 3 → (S i j).size ≤ maxLen) (w : World) (hR : Recs w B (.slice A n cap) n 3 (SV S)) (hBw : B ≤ w.heap.size) (e1 : w.cell? ⟨b1, 0, none⟩ = some (.slice A n cap)) :
    Calls Tryd.prog 65 #[.int .i64 way, .pointer (some ⟨b1, 0, none⟩)] w fun e w' => e = .returned (.bool (expB S n way)) ∧ Below w.heap.size w w' := by
  have HC := Lib.hid (iExplains w B (.slice A n cap) n S way hR hBw hS)
  clear hS hR
  generalize expB S n way = x at *
  go_enter Tryd.func65, Tryd.ntmps65
  go_wp2_with fail
  refine HC.out.mono ?_
  rintro e w1 ⟨rfl, b1⟩
  go_wp2_with fail
  go_ret
  exact ⟨rfl, b1⟩

set_option maxRecDepth 20000 in
set_option maxHeartbeats 4000000 in
theorem iWays (w : World) (B : Nat) (v : Value) (n : Nat) (S : Nat → Nat → ByteArray) (hR : Recs w B v n 3 (SV S)) (hBw : B ≤ w.heap.size) (hS : ∀ i, i < n → ∀ j, j < 3 → (S i j).size ≤ maxLen) :
    Calls Tryd.prog 23 #[v] w (IntsP (wayL S n) w) := by
  obtain ⟨A, cap, rfl, hrest⟩ := hR
  have hR : Recs w B (.slice A n cap) n 3 (SV S) := ⟨A, cap, rfl, hrest⟩
  clear hrest
  obtain ⟨W2, hW2⟩ : ∃ W2, w.alloc (.cells #[.slice A n cap] 23) = W2 := ⟨_, rfl⟩
  have hsz : W2.heap.size = w.heap.size + 1 := by rw [← hW2]; simp
  have c1 : W2.cell? ⟨w.heap.size, 0, none⟩ = some (.slice A n cap) := by rw [← hW2, World.cell?_alloc_mark]; rfl
  have hB2 : Below w.heap.size w W2 := by rw [← hW2]; exact (Below.refl _ _).alloc (Nat.le_refl _) _
  have hR2 := hR.below hB2 hBw
  have HW := Lib.hid (which_ways W2 (fun k => expB S n k) W2.heap.size (Nat.le_refl _) w.heap.size
    (fun k _ W' hb => ways_cl A n cap S w.heap.size B k hS W' (hR2.below hb (by omega)) (by have := hb.size; omega) ((hb.cell (p := ⟨w.heap.size, 0, none⟩) (by show w.heap.size < W2.heap.size; omega)).trans c1)))
  have HE := Lib.hid hW2
  clear hS c1 hW2 hR hR2
  unfold wayL
  generalize whL (fun k => expB S n k) 16 = xs at *
  have hmf : ∀ (fn : Fn) (first cap : Array Value) (w : World), (Instr.makeFunc fn first cap).run Tryd.prog w = .ok (.func fn first cap) w := fun _ _ _ _ => rfl
  go_enter Tryd.func23, Tryd.ntmps23
  go_wp2_with fail
  rw [HE.out]
  refine HW.out.mono ?_
  rintro e w1 ⟨v, rfl, o1, b1⟩
  go_wp2_with fail
  go_ret
  exact ⟨v, rfl, o1.mono (by omega), below_own hB2 b1 hB2.size⟩

set_option maxRecDepth 20000 in
set_option maxHeartbeats 4000000 in
theorem sWays (w : World) (B : Nat) (v : Value) (n : Nat) (S : Nat → Nat → ByteArray) (hR : Recs w B v n 3 (SV S)) (hBw : B ≤ w.heap.size) (hS : ∀ i, i < n → ∀ j, j < 3 → (S i j).size ≤ maxLen) :
    Calls Tryd.prog 25 #[v] w (IntsP (wayL S n) w) := by
  have HC := Lib.hid fun (k : Nat) W hRw hBW => sExplains W B v n S k hRw hBW hS
  obtain ⟨i0, hi, hz0, hz1, hz2⟩ := info_parts infoIntW
  have hbel := (Below.refl w.heap.size w).alloc (Nat.le_refl _) (.cells #[] 3)
  have HF := Lib.hid (show ∀ k : Nat, expB S n k = (fun k : Nat => expB S n k) k from fun _ => rfl)
  have HR := Lib.hid hR
  unfold wayL
  clear hS hR
  generalize (fun k : Nat => expB S n k) = p at *
  go_enter Tryd.func25, Tryd.ntmps25
  go_wp2_with fail
  go_loopg [3, 4] 16 (fun g s3 s4 wr => ∃ k : Nat, g + k = 16 ∧ s4 = .int .i64 k ∧ wr.ownsRow w.heap.size 3 1 s3 (whL p k).length ((whL p k).map (Value.int .i64)) ∧ Below w.heap.size w wr)
  case atStart => exact ⟨0, rfl, rfl, owns_new w w.heap.size 3 1 0 #[] (Nat.le_refl _) (by decide) rfl, hbel⟩
  case round =>
    obtain ⟨k, hk, rfl, hown, hB⟩ := hrel
    have hlen := whL_length p k
    by_cases hlt : k < 16
    · have HK := Lib.hid (HC.out k wr (HR.out.below hB hBw) (by have := hB.size; omega))
      rw [HF.out k] at HK
      have HOwn := Lib.hid hown
      have HBel := Lib.hid hB
      clear hown hB
      cases hpk : p k with
      | true =>
        have HS := Lib.hid (whL_yes hpk)
        rw [hpk] at HK
        clear hpk
        go_wp2_with fail
        refine HK.out.mono ?_
        rintro e w1 ⟨rfl, q1⟩
        have hown1 := own_below HOwn.out q1
        have hB1 := below_own HBel.out q1 HBel.out.size
        go_wp2_with (at_builtin; refine wpList_append_own _ rfl _ _ 35 rfl w.heap.size 3 i0 (.int .i64 0) 1 8 Tryd.underlying35 hi hz0 hz1 hz2 rfl (by decide) _ _ _ rfl (hown1.alloc _) ⟨w1.heap.size, 0, none⟩ 1 1 [.int .i64 k] rfl rfl (cell_one_new _ _ _) (by simp [Value.oneCell']) (by unfold maxLen; omega) (by omega) (by have := hB1.size; simp; omega) ?_; intro v' w2 hown' hgrow _)
        have hB2 := (hB1.alloc hB1.size (.cells #[.int .i64 (k : Int)] 3)).grown hgrow (by have := hB1.size; simp; omega) (fun j hj => (hown1.lt j hj).1)
        go_roundg (gk - 1)
        case measure => omega
        case rel => exact ⟨k + 1, by omega, by go_num, by rw [HS.out, List.length_append, List.map_append]; exact hown', hB2⟩
      | false =>
        have HS := Lib.hid (whL_no hpk)
        rw [hpk] at HK
        clear hpk
        go_wp2_with fail
        refine HK.out.mono ?_
        rintro e w1 ⟨rfl, q1⟩
        have hown1 := own_below HOwn.out q1
        have hB1 := below_own HBel.out q1 HBel.out.size
        go_wp2_with fail
        go_roundg (gk - 1)
        case measure => omega
        case rel => exact ⟨k + 1, by omega, by go_num, by rw [HS.out]; exact hown1, hB1⟩
    · obtain rfl : k = 16 := by omega
      go_wp2_with fail
      go_ret
      exact ⟨_, rfl, Own.of_row hown, hB⟩
end Go.Proofs.YtfhefngpeknhlaaDoor
