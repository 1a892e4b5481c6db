/- Drawing a row: the walk of l20Row. -/
import Derived.Test.YtfmfjbphflkhiaaDoorRow
import Derived.Test.YtfmfjbphflkhiaaDoorDivn
namespace Go.Proofs.YtfmfjbphflkhiaaDoor
set_option linter.unusedVariables false
set_option linter.unusedSimpArgs false
open Go.RowKit

theorem mulF_range (s : ByteArray) (q : Int) (i j : Nat) (h : i < rwN s q) : 0 ≤ mulF s.data.toList q i j ∧ mulF s.data.toList q i j ≤ 9 := by
  unfold rwN at h
  split at h
  · rename_i hc
    obtain ⟨hn, hq⟩ := hc
    have hq' := inD_iff.1 hq
    have hd := fun k => dg_range (numB_all hn) k
    have h1 := hd i
    have h2 := mulC_range hd hq' i
    have h3 := mulC_range hd hq' (i + 1)
    unfold mulF
    repeat' split
    all_goals omega
  · omega
def RowPost (rb p : Nat) (w : World) (e : Ending) (w' : World) : Prop :=
  ∃ v n F, e = .returned v ∧ n ≤ 9 ∧ (∀ i j, i < n → -10 ≤ F i j ∧ F i j ≤ 20) ∧ Own w' w.heap.size 29 5 v n (recCells 5 (IV F) n) ∧ ∃ p', p' ≤ p + 2000 ∧ Rdr w' rb p' ∧ w.grownBy w' (some rb)
theorem updI_range {F : Nat → Nat → Int} {n : Nat} (h : ∀ i j, i < n → -10 ≤ F i j ∧ F i j ≤ 20) {a b : Nat} {u : Int} (hu : -10 ≤ u ∧ u ≤ 20) : ∀ i j, i < n → -10 ≤ updI F a b u i j ∧ updI F a b u i j ≤ 20 := fun i j hi => by
  unfold updI
  split
  · exact hu
  · exact h i j hi

set_option maxRecDepth 20000 in
set_option maxHeartbeats 8000000 in
theorem row_any (n : Int) (rb p : Nat) (w : World) (h : Rdr w rb p) (hp : p < 800000000) (hn : -1000 ≤ n) (hn1 : n ≤ 1000) :
    Calls Tryd.prog 30 #[.pointer (some ⟨rb, 0, none⟩), .int .i64 n] w (RowPost rb p w) := by
  have hrb := h.lt
  obtain ⟨i0, hi, hz0, hz1, hz2⟩ := info_parts infoColR
  go_enter Tryd.func30, Tryd.ntmps30
  go_wp2_with fail
  refine (numeral_any _ _ _ _ _ h (by omega) (by omega) (by omega) (by omega) (by omega)).mono ?_
  rintro e w1 ⟨s, rfl, hs, p1, hp1, hR1, hg1⟩
  go_wp2_with fail
  refine (pick_any _ _ _ _ hR1 (by omega)).mono ?_
  rintro e w2 ⟨q, rfl, hx2, hz2', hR2, hg2⟩
  obtain ⟨hq0, hq1⟩ := hx2 (by omega)
  clear hx2 hz2' hR1 h
  go_wp2_with fail
  refine (sRowOf s q (by unfold maxLen; omega) _).mono ?_
  rintro e w5 ⟨v, rfl, ho5, hb5⟩
  have hR5 := hR2.below hb5 hR2.lt
  have hg5 := (hg1.trans hg2).trans (grown_of_below hb5 _)
  have hF : ∀ i j, i < rwN s q → -10 ≤ mulF s.data.toList q i j ∧ mulF s.data.toList q i j ≤ 20 := fun i j hi => by have := mulF_range s q i j hi; omega
  have hF9 := fun i j hi => mulF_range s q i j hi
  have hln := rwN_len s q
  have hw4 : w.heap.size ≤ w2.heap.size := (hg1.trans hg2).size
  have ho5' : Own w5 w.heap.size 29 5 v (rwN s q) (recCells 5 (IV (mulF s.data.toList q)) (rwN s q)) := ho5.mono hw4
  clear hg1 hg2 hb5 hR2 ho5
  generalize mulF s.data.toList q = F at *
  generalize rwN s q = m at *
  have HF := Lib.hid hF
  have HF9 := Lib.hid hF9
  clear hF hF9
  go_wp2_with fail
  refine (odd_any _ _ _ _ hR5 (by omega) hn hn1).mono ?_
  rintro e w6 ⟨b, rfl, p6, hp6, hR6, hg6⟩
  have ho6 := ho5'.grown hg6 (by cases hv : v.ownBlock with
    | none => exact .inl rfl
    | some k => exact .inr fun e => by injection e with e; have := (ho5'.lt k hv).1; omega)
  have hgw := hg5.trans hg6
  clear hR5 hg5 hg6 ho5'
  cases b with
  | false =>
    go_wp2_with fail
    go_ret
    exact ⟨v, m, F, rfl, by omega, HF.out, ho6, p6, by omega, hR6, hgw⟩
  | true =>
  by_cases hm0 : m = 0
  · subst hm0
    obtain ⟨_, cap, rfl⟩ : ∃ a cap, v = .slice a 0 cap := by
      rcases ho6.2 with ⟨rfl, _⟩ | ⟨g, cap, cur, rfl, _⟩
      · exact ⟨_, _, rfl⟩
      · exact ⟨_, _, rfl⟩
    go_wp2_with fail
    go_ret
    exact ⟨_, 0, F, rfl, by omega, HF.out, ho6, p6, by omega, hR6, hgw⟩
  obtain ⟨g, cap, rfl, hnc, hcm, hgb, hgl, hcell, hfz⟩ := ho6.at_ (by omega)
  have Hcell := Lib.hid hcell
  have Hfz := Lib.hid hfz
  clear hcell hfz
  unfold maxLen at hcm
  have hm0' : 0 < m := by omega
  go_wp2_with fail
  refine (pick_any _ _ _ _ hR6 (by omega)).mono ?_
  rintro e w7 ⟨x7, rfl, hx7, hz7, hR7, hg7⟩
  obtain ⟨hx70, hx71⟩ := hx7 (by omega)
  obtain ⟨k, rfl⟩ := Int.eq_ofNat_of_zero_le hx70
  clear hx7 hz7 hR6
  go_wp2_with fail
  refine (pick_any _ _ _ _ hR7 (by omega)).mono ?_
  rintro e w8 ⟨x8, rfl, hx8, hz8, hR8, hg8⟩
  obtain ⟨hx80, hx81⟩ := hx8 (by omega)
  obtain ⟨c, rfl⟩ := Int.eq_ofNat_of_zero_le hx80
  have hkm : k < m := by omega
  have hgr : ∀ {a b : World}, a.grownBy b (some rb) → (Value.slice (some ⟨g, 0, none⟩) m cap).ownBlock = none ∨ (Value.slice (some ⟨g, 0, none⟩) m cap).ownBlock ≠ some rb := fun _ => .inr fun e => by simp [Value.ownBlock] at e; omega
  have ho8 := (ho6.grown hg7 (hgr hg7)).grown hg8 (hgr hg8)
  have hgw8 := (hgw.trans hg7).trans hg8
  clear hx8 hz8 hR7 hg7 hg8 ho6 hgr hgw
  obtain ⟨g', cap', hv, _, _, _, hgl8, hcell8, hfz8⟩ := ho8.at_ (by omega)
  cases hv
  have hc : c = 0 ∨ c = 1 ∨ c = 2 ∨ c = 3 ∨ c = 4 := by omega
  rcases hc with rfl | rfl | rfl | rfl | rfl
  · have HU := Lib.hid (recs_set ho8 hkm (show 3 < 5 by decide) (.int .i64 ((F k 3 + 1) % 10)))
    have b2 := HF9.out k 3 hkm
    have cc : w8.cell? ⟨g, k * 5 + 3, none⟩ = _ := hcell8 _ _ (recCells_at (k := 5) (V := IV F) hkm (show 3 < 5 by decide))
    have zz := hfz8 (k * 5 + 3)
    simp only [IV] at cc
    have hR9 := hR8.keep (w' := w8.setCell ⟨g, k * 5 + 3, none⟩ (.int .i64 ((F k 3 + 1) % 10))) fun a ha => Below.heap_setCell w8 ⟨g, k * 5 + 3, none⟩ _ a (by simp; omega)
    have hgw9 : w.grownBy (w8.setCell ⟨g, k * 5 + 3, none⟩ (.int .i64 ((F k 3 + 1) % 10))) (some rb) := set_fresh hgw8 (by omega)
    clear hcell8 hfz8 ho8 hR8 hgw8
    go_wp2
    go_ret
    exact ⟨_, m, updI F k 3 ((F k 3 + 1) % 10), rfl, by omega, updI_range HF.out (by omega), by rw [← upd_IV]; exact HU.out, p6 + 1 + 1, by omega, hR9, hgw9⟩
  · have HU := Lib.hid (recs_set ho8 hkm (show 4 < 5 by decide) (.int .i64 ((F k 4 + 1) % 10)))
    have b2 := HF9.out k 4 hkm
    have cc : w8.cell? ⟨g, k * 5 + 4, none⟩ = _ := hcell8 _ _ (recCells_at (k := 5) (V := IV F) hkm (show 4 < 5 by decide))
    have zz := hfz8 (k * 5 + 4)
    simp only [IV] at cc
    have hR9 := hR8.keep (w' := w8.setCell ⟨g, k * 5 + 4, none⟩ (.int .i64 ((F k 4 + 1) % 10))) fun a ha => Below.heap_setCell w8 ⟨g, k * 5 + 4, none⟩ _ a (by simp; omega)
    have hgw9 : w.grownBy (w8.setCell ⟨g, k * 5 + 4, none⟩ (.int .i64 ((F k 4 + 1) % 10))) (some rb) := set_fresh hgw8 (by omega)
    clear hcell8 hfz8 ho8 hR8 hgw8
    go_wp2
    go_ret
    exact ⟨_, m, updI F k 4 ((F k 4 + 1) % 10), rfl, by omega, updI_range HF.out (by omega), by rw [← upd_IV]; exact HU.out, p6 + 1 + 1, by omega, hR9, hgw9⟩
  · have HU := Lib.hid (recs_set ho8 hkm (show 1 < 5 by decide) (.int .i64 ((F k 1 + 1) % 10)))
    have b2 := HF9.out k 1 hkm
    have cc : w8.cell? ⟨g, k * 5 + 1, none⟩ = _ := hcell8 _ _ (recCells_at (k := 5) (V := IV F) hkm (show 1 < 5 by decide))
    have zz := hfz8 (k * 5 + 1)
    simp only [IV] at cc
    have hR9 := hR8.keep (w' := w8.setCell ⟨g, k * 5 + 1, none⟩ (.int .i64 ((F k 1 + 1) % 10))) fun a ha => Below.heap_setCell w8 ⟨g, k * 5 + 1, none⟩ _ a (by simp; omega)
    have hgw9 : w.grownBy (w8.setCell ⟨g, k * 5 + 1, none⟩ (.int .i64 ((F k 1 + 1) % 10))) (some rb) := set_fresh hgw8 (by omega)
    clear hcell8 hfz8 ho8 hR8 hgw8
    go_wp2
    go_ret
    exact ⟨_, m, updI F k 1 ((F k 1 + 1) % 10), rfl, by omega, updI_range HF.out (by omega), by rw [← upd_IV]; exact HU.out, p6 + 1 + 1, by omega, hR9, hgw9⟩
  · have HU := Lib.hid (recs_set (recs_set ho8 hkm (show 3 < 5 by decide) (.int .i64 (F k 3 + 10))) hkm (show 4 < 5 by decide) (.int .i64 (F k 4 - 1)))
    have b2 := HF9.out k 3 hkm
    have b3 := HF9.out k 4 hkm
    have cc : w8.cell? ⟨g, k * 5 + 3, none⟩ = _ := hcell8 _ _ (recCells_at (k := 5) (V := IV F) hkm (show 3 < 5 by decide))
    have cd : w8.cell? ⟨g, k * 5 + 4, none⟩ = _ := hcell8 _ _ (recCells_at (k := 5) (V := IV F) hkm (show 4 < 5 by decide))
    have zz := hfz8 (k * 5 + 3)
    have zd := hfz8 (k * 5 + 4)
    simp only [IV] at cc cd
    have hR9 := hR8.keep (w' := (w8.setCell ⟨g, k * 5 + 3, none⟩ (.int .i64 (F k 3 + 10))).setCell ⟨g, k * 5 + 4, none⟩ (.int .i64 (F k 4 - 1))) fun a ha => (Below.heap_setCell (w8.setCell ⟨g, k * 5 + 3, none⟩ (.int .i64 (F k 3 + 10))) ⟨g, k * 5 + 4, none⟩ _ a (by simp; omega)).trans (Below.heap_setCell w8 ⟨g, k * 5 + 3, none⟩ _ a (by simp; omega))
    have hgw9 : w.grownBy ((w8.setCell ⟨g, k * 5 + 3, none⟩ (.int .i64 (F k 3 + 10))).setCell ⟨g, k * 5 + 4, none⟩ (.int .i64 (F k 4 - 1))) (some rb) := set_fresh (set_fresh hgw8 (by omega)) (by omega)
    clear hcell8 hfz8 ho8 hR8 hgw8
    go_wp2
    go_ret
    exact ⟨_, m, updI (updI F k 3 (F k 3 + 10)) k 4 (F k 4 - 1), rfl, by omega, updI_range (updI_range HF.out (by omega)) (by omega), by rw [← upd_IV, ← upd_IV]; exact HU.out, p6 + 1 + 1, by omega, hR9, hgw9⟩
  · clear hcell8 hfz8
    have hwl : w.heap.size ≤ w8.heap.size := hgw8.size
    have hnew := owns_new w8 w.heap.size 29 5 0 #[] hwl (by decide) rfl
    have hR9 := hR8.keep (w' := w8.alloc (.cells #[] 29)) fun j hj => heap_alloc_old w8 _ (by have := hR8.lt; omega)
    have hgw9 := hgw8.trans (World.grownBy_alloc w8 (.cells #[] 29) (some rb))
    go_wp2
    go_ret
    exact ⟨_, 0, F, rfl, by omega, fun i j hi => by omega, by rw [recCells_zero]; exact Own.of_row hnew, p6 + 1 + 1, by omega, hR9, hgw9⟩
end Go.Proofs.YtfmfjbphflkhiaaDoor
