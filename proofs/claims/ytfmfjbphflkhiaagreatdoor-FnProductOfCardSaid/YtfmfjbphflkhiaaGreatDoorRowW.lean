/- The walks of withCarry, and of RowWritten, of the program and of the reference. -/
import Derived.Test.YtfmfjbphflkhiaaGreatDoorRowI
import Derived.Test.YtfmfjbphflkhiaaGreatDoorNmbr
import Derived.Deep.AppendLies
import Derived.Deep.RegionLaw
namespace Go.Proofs.YtfmfjbphflkhiaaGreatDoor
set_option linter.unusedVariables false
set_option linter.unusedSimpArgs false
open Go.RowKit

theorem dn_up (n : Nat) : upI n n = dnI n n := rfl
def newsV (F : Nat → Nat → Int) (n : Nat) : List Value := (dnI n n).map fun x => Value.int .i64 (F x 3)
theorem newsV_length (F : Nat → Nat → Int) (n : Nat) : (newsV F n).length = n := by simp [newsV, dnI_length]
theorem newsV_rwD (F : Nat → Nat → Int) (n : Nat) : (rwD F n n).map (Value.int .i64) = [Value.int .i64 (F (n - 1) 4)] ++ newsV F n := by simp [rwD, newsV]
theorem numbers_row (w : World) (B : Nat) (v : Value) (n : Nat) (F : Nat → Nat → Int) (hR : Recs w B v n 5 (IV F)) (hBw : B ≤ w.heap.size) (h1 : 1 ≤ n) (hn : n ≤ 9) :
    Calls Tryz.prog 54 #[v, .func (.func 55) #[] #[]] w fun e w' => ∃ g cap, e = .returned (.slice (some ⟨g, 0, none⟩) n cap) ∧ g < w'.heap.size ∧ (∀ j u, (newsV F n)[j]? = some u → w'.cell? ((⟨g, 0, none⟩ : Addr).add j) = some u) ∧ Below w.heap.size w w' := by
  refine (numbers_any w B v n F hR hBw hn).mono ?_
  rintro e w' ⟨v', rfl, ho, hb⟩
  obtain ⟨g, cap, rfl, _, _, _, hg, hc, _⟩ := owns_at ho (by omega)
  refine ⟨g, cap, rfl, hg, fun j u hj => ?_, hb⟩
  rw [Go.WideShapes.add_plain]
  exact (by simpa using hc j u hj)

set_option maxRecDepth 20000 in
set_option maxHeartbeats 4000000 in
theorem withCarry_ok (w : World) (B : Nat) (v : Value) (n : Nat) (F : Nat → Nat → Int) (hR : Recs w B v n 5 (IV F)) (hBw : B ≤ w.heap.size) (h1 : 1 ≤ n) (h9 : n ≤ 9) (hd : ∀ i, i < n → (0 ≤ F i 3 ∧ F i 3 ≤ 9) ∧ (0 ≤ F i 4 ∧ F i 4 ≤ 9)) :
    Calls Tryz.prog 37 #[v] w fun e w' => e = .returned (.tuple #[.string (coS F n), .bool (coB F n)]) ∧ Below w.heap.size w w' := by
  obtain ⟨i0, hi, hz0, hz1, hz2⟩ := info_parts infoIntT
  have HP := Lib.hid fun W vv (hRw : IntSl W W.heap.size vv (rwD F n n)) => plain_any W W.heap.size vv _ hRw (Nat.le_refl _) (rwD_mem h1 hd) (by rw [rwD_length]; omega)
  have HN := Lib.hid fun W (hW : Below w.heap.size w W) => numbers_row W B v n F (hR.below hW hBw) (by have := hW.size; omega) h1 h9
  obtain ⟨A, cap, rfl, hnc, hcm, hcell⟩ := hR
  unfold maxLen at hcm
  obtain ⟨b, o, rfl, hb, hc⟩ := hcell (by omega)
  have hbw : b < w.heap.size := by omega
  have c0 := hc (n - 1) (by omega) 4 (by omega)
  simp only [IV] at c0
  have HV := Lib.hid (newsV_rwD F n)
  have HVl := Lib.hid (newsV_length F n)
  have HVo : Hid (∀ u ∈ newsV F n, u.oneCell' = true) := Lib.hid (by
    intro u hu
    simp only [newsV, List.mem_map] at hu
    obtain ⟨x, _, rfl⟩ := hu
    rfl)
  have HLen := Lib.hid (rwD_length F n n)
  have hn1 : (n : Int) - 1 = ((n - 1 : Nat) : Int) := by omega
  have hnn : n - 1 < n := by omega
  clear hcell hc hd
  unfold coS coB
  generalize newsV F n = news at *
  generalize rwD F n n = ds at *
  generalize F (n - 1) 4 = out at *
  obtain ⟨n1, hn1'⟩ : ∃ m, n - 1 = m := ⟨_, rfl⟩
  rw [hn1'] at c0 hn1 hnn
  have hwr : IntKind.i64.wrap ((n1 : Nat) : Int) = (n1 : Int) := by rw [IntKind.wrap_i64]; omega
  have hni : (n1 : Int) < (n : Int) := by omega
  go_enter Tryz.func37, Tryz.ntmps37
  go_wp2_with fail
  have hm1 : 1 + n ≤ maxLen := by unfold maxLen; omega
  have hby : (1 + n) * 8 ≤ 140737488355328 := by omega
  go_region_law (first
    | (go_simp; go_at_call 54; refine (HN.out _ ?_).mono ?_; (first | exact Below.refl _ _ | exact (Below.refl _ _).drew | exact (Below.refl _ _).alloc (Nat.le_refl _) _ | exact ((Below.refl _ _).alloc (Nat.le_refl _) _).drew); (rintro e w2 ⟨g2, cap2, rfl, hg2, hc2, b2⟩); (have hB2 : Below w.heap.size w w2 := by first | exact below_own (Below.refl _ _).drew b2 (Nat.le_refl _) | exact below_own ((Below.refl _ _).alloc (Nat.le_refl _) _).drew b2 (by simp)); (have k2 := (hB2.cell (p := ⟨b, o + n1 * 5 + 4, none⟩) hbw).trans c0); (have hzw := hB2.size))
    | (go_simp; go_at_call 53; refine (HP.out _ _ ?_).mono ?_; (exact s3); (rintro e w4 ⟨rfl, b4⟩); (have hB4 := below_own hB3 b4 hB3.size))
    | (refine step_append_lies _ (by rfl) _ _ 64 (by rfl) w.heap.size 3 i0 _ 1 8 Tryz.underlying64 hi hz0 hz1 hz2 rfl (by decide) (.slice (some ⟨_, 0, none⟩) 1 1) 1 [.int .i64 out] (by rfl) ?hown ⟨g2, 0, none⟩ n cap2 news (by rfl) ?hl ?hc ?h1 ?hm hm1 hby ?hba _ rfl ?_; (case hown => first | exact own_below (owns_new w w.heap.size 3 1 1 #[.int .i64 out] (Nat.le_refl _) (by decide) rfl) b2 | exact own_below (owns_new w w.heap.size 3 1 1 #[.int .i64 out] (Nat.le_refl _) (by decide) rfl).drew b2 | exact owns_new w2 w.heap.size 3 1 1 #[.int .i64 out] hzw (by decide) rfl); (case hl => rw [HVl.out, Nat.mul_one]); (case hc => first | exact hc2 | exact fun j u hj => (by rw [Go.WideShapes.add_plain]; exact (World.cell?_alloc_past _ _ _ hg2).trans (by rw [← Go.WideShapes.add_plain]; exact hc2 j u hj))); (case h1 => exact HVo.out); (case hm => omega); (case hba => first | exact hzw | (simp; omega)); (intro g3 cap3 w3 hown3 hgrow3 _ _); (have hB3 : Below w.heap.size w w3 := by first | exact hB2.grown hgrow3 hzw (fun j hj => by simp [Value.ownBlock] at hj; omega) | exact (hB2.alloc hzw _).grown hgrow3 (by simp; omega) (fun j hj => by simp [Value.ownBlock] at hj; omega)); (have s3 : IntSl w3 w3.heap.size (.slice (some ⟨g3, 0, none⟩) (1 + n) cap3) ds := IntSl.of_own (by rw [HLen.out, HV.out, Nat.add_comm n 1]; exact Own.of_row hown3))))
  all_goals (go_wp2_with fail)
  all_goals (go_ret2)
  all_goals (exact ⟨rfl, hB4⟩)
end Go.Proofs.YtfmfjbphflkhiaaGreatDoor
