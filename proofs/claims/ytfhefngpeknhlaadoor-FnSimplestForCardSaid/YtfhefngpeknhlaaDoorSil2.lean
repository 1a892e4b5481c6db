/- The walks of SilentIn, of the program (a closure over both texts) and of the reference; its exact law; over Wh. -/
import Derived.Test.YtfhefngpeknhlaaDoorCom
import Derived.Test.YtfhefngpeknhlaaDoorStrS
import Derived.Test.YtfhefngpeknhlaaDoorWh
namespace Go.Proofs.YtfhefngpeknhlaaDoor
set_option linter.unusedVariables false
set_option linter.unusedSimpArgs false
open Go.RowKit

theorem comes_cl (s t : ByteArray) (b1 b2 : Nat) (way : Int) (hs : s.size ≤ maxLen) (ht : t.size ≤ maxLen) (w : World) (e1 : w.cell? ⟨b1, 0, none⟩ = some (.string s)) (e2 : w.cell? ⟨b2, 0, none⟩ = some (.string t)) :
    Calls Tryd.prog 73 #[.int .i64 way, .pointer (some ⟨b1, 0, none⟩), .pointer (some ⟨b2, 0, none⟩)] w fun e w' => e = .returned (.bool (comB s.data.toList t.data.toList way)) ∧ Below w.heap.size w w' := by
  have HC := Lib.hid fun W => iComes s t way hs ht W
  clear hs ht
  generalize comB s.data.toList t.data.toList way = x at *
  go_enter Tryd.func73, Tryd.ntmps73
  go_wp2_with fail
  refine (HC.out _).mono ?_
  rintro e w1 ⟨rfl, b1⟩
  go_wp2_with fail
  go_ret
  exact ⟨rfl, b1⟩

def silL (s t : List UInt8) : List Int := whL (fun k => comB s t k) 16
set_option maxRecDepth 20000 in
set_option maxHeartbeats 4000000 in
theorem iSilent (s t : ByteArray) (hs : s.size ≤ maxLen) (ht : t.size ≤ maxLen) (w : World) : Calls Tryd.prog 34 #[.string s, .string t] w (IntsP (silL s.data.toList t.data.toList) w) := by
  obtain ⟨W2, hW2⟩ : ∃ W2, (w.alloc (.cells #[.string s] 9)).alloc (.cells #[.string t] 9) = W2 := ⟨_, rfl⟩
  have hsz : W2.heap.size = w.heap.size + 2 := by rw [← hW2]; simp
  have c1 : W2.cell? ⟨w.heap.size, 0, none⟩ = some (.string s) := by
    rw [← hW2, World.cell?_alloc_past _ _ _ (by simp), World.cell?_alloc_mark]; rfl
  have c2 : W2.cell? ⟨w.heap.size + 1, 0, none⟩ = some (.string t) := by
    rw [← hW2]
    have : w.heap.size + 1 = (w.alloc (.cells #[.string s] 9)).heap.size := by simp
    rw [this, World.cell?_alloc_mark]; rfl
  have hB2 : Below w.heap.size w W2 := by
    rw [← hW2]
    exact ((Below.refl _ _).alloc (Nat.le_refl _) _).alloc (by simp) _
  have HW := Lib.hid (which_silent W2 (fun k => comB s.data.toList t.data.toList k) W2.heap.size (Nat.le_refl _) w.heap.size (w.heap.size + 1)
    (fun k _ W' hb => comes_cl s t w.heap.size (w.heap.size + 1) k hs ht W' ((hb.cell (p := ⟨w.heap.size, 0, none⟩) (by show w.heap.size < W2.heap.size; omega)).trans c1) ((hb.cell (p := ⟨w.heap.size + 1, 0, none⟩) (by show w.heap.size + 1 < W2.heap.size; omega)).trans c2)))
  have HE := Lib.hid hW2
  clear hs ht c1 c2 hW2
  unfold silL
  generalize whL (fun k => comB s.data.toList t.data.toList k) 16 = xs at *
  have hmf : ∀ (fn : Fn) (first cap : Array Value) (w : World), (Instr.makeFunc fn first cap).run Tryd.prog w = .ok (.func fn first cap) w := fun _ _ _ _ => rfl
  go_enter Tryd.func34, Tryd.ntmps34
  go_wp2_with fail
  rw [HE.out]
  refine HW.out.mono ?_
  rintro e w1 ⟨v, rfl, o1, b1⟩
  go_wp2_with fail
  go_ret
  exact ⟨v, rfl, o1.mono (by omega), below_own hB2 b1 hB2.size⟩

set_option maxRecDepth 20000 in
set_option maxHeartbeats 4000000 in
theorem sSilent (s t : ByteArray) (hs : s.size ≤ maxLen) (ht : t.size ≤ maxLen) (w : World) : Calls Tryd.prog 35 #[.string s, .string t] w (IntsP (silL s.data.toList t.data.toList) w) := by
  have HC := Lib.hid fun (k : Nat) W => sComes s t k hs ht W
  obtain ⟨i0, hi, hz0, hz1, hz2⟩ := info_parts infoIntW
  have hbel := (Below.refl w.heap.size w).alloc (Nat.le_refl _) (.cells #[] 3)
  have HF := Lib.hid (show ∀ k : Nat, comB s.data.toList t.data.toList k = (fun k : Nat => comB s.data.toList t.data.toList k) k from fun _ => rfl)
  unfold silL
  clear hs ht
  generalize (fun k : Nat => comB s.data.toList t.data.toList k) = p at *
  go_enter Tryd.func35, Tryd.ntmps35
  go_wp2_with fail
  go_loopg [5, 6] 16 (fun g s5 s6 wr => ∃ k : Nat, g + k = 16 ∧ s6 = .int .i64 k ∧ wr.ownsRow w.heap.size 3 1 s5 (whL p k).length ((whL p k).map (Value.int .i64)) ∧ Below w.heap.size w wr)
  case atStart => exact ⟨0, rfl, rfl, owns_new w w.heap.size 3 1 0 #[] (Nat.le_refl _) (by decide) rfl, hbel⟩
  case round =>
    obtain ⟨k, hk, rfl, hown, hB⟩ := hrel
    have hlen := whL_length p k
    by_cases hlt : k < 16
    · have HK := Lib.hid (HC.out k wr)
      rw [HF.out k] at HK
      have HOwn := Lib.hid hown
      have HBel := Lib.hid hB
      clear hown hB
      cases hpk : p k with
      | true =>
        have HS := Lib.hid (whL_yes hpk)
        rw [hpk] at HK
        clear hpk
        go_wp2_with fail
        refine HK.out.mono ?_
        rintro e w1 ⟨rfl, q1⟩
        have hown1 := own_below HOwn.out q1
        have hB1 := below_own HBel.out q1 HBel.out.size
        go_wp2_with (at_builtin; refine wpList_append_own _ rfl _ _ 35 rfl w.heap.size 3 i0 (.int .i64 0) 1 8 Tryd.underlying35 hi hz0 hz1 hz2 rfl (by decide) _ _ _ rfl (hown1.alloc _) ⟨w1.heap.size, 0, none⟩ 1 1 [.int .i64 k] rfl rfl (cell_one_new _ _ _) (by simp [Value.oneCell']) (by unfold maxLen; omega) (by omega) (by have := hB1.size; simp; omega) ?_; intro v' w2 hown' hgrow _)
        have hB2 := (hB1.alloc hB1.size (.cells #[.int .i64 (k : Int)] 3)).grown hgrow (by have := hB1.size; simp; omega) (fun j hj => (hown1.lt j hj).1)
        go_roundg (gk - 1)
        case measure => omega
        case rel => exact ⟨k + 1, by omega, by go_num, by rw [HS.out, List.length_append, List.map_append]; exact hown', hB2⟩
      | false =>
        have HS := Lib.hid (whL_no hpk)
        rw [hpk] at HK
        clear hpk
        go_wp2_with fail
        refine HK.out.mono ?_
        rintro e w1 ⟨rfl, q1⟩
        have hown1 := own_below HOwn.out q1
        have hB1 := below_own HBel.out q1 HBel.out.size
        go_wp2_with fail
        go_roundg (gk - 1)
        case measure => omega
        case rel => exact ⟨k + 1, by omega, by go_num, by rw [HS.out]; exact hown1, hB1⟩
    · obtain rfl : k = 16 := by omega
      go_wp2_with fail
      go_ret
      exact ⟨_, rfl, Own.of_row hown, hB⟩

end Go.Proofs.YtfhefngpeknhlaaDoor
