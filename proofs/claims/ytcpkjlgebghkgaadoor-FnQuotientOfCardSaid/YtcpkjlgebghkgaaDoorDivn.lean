/- Drawing a division: the walk of l20Division. -/
import Derived.Test.YtcpkjlgebghkgaaDoorDrw
import Derived.Test.YtcpkjlgebghkgaaDoorDivided
import Derived.Deep.DeepCutAuto
namespace Go.Proofs.YtcpkjlgebghkgaaDoor
set_option linter.unusedVariables false
set_option linter.unusedSimpArgs false
open Go.RowKit

theorem dvF_range (s : ByteArray) (d : Int) (i j : Nat) (h : i < dvN s d) : 0 ≤ dvF s.data.toList d i j ∧ dvF s.data.toList d i j ≤ 1000 := by
  unfold dvN at h
  split at h
  · rename_i hc
    obtain ⟨hn, hd1, hd2⟩ := hc
    have h1 := dvL_range s.data.toList d hd1 i
    have h2 := dvL_range s.data.toList d hd1 (i + 1)
    have h3 := numB_all hn _ (str_mem s i h)
    have h4 : 0 ≤ dA s.data.toList i ∧ dA s.data.toList i ≤ 9 := by rw [dA_at s i h]; omega
    have hX : 0 ≤ 10 * dvL s.data.toList d i + dA s.data.toList i := by omega
    have h5 : 0 ≤ (10 * dvL s.data.toList d i + dA s.data.toList i) / d := Int.ediv_nonneg hX (by omega)
    have h6 : (10 * dvL s.data.toList d i + dA s.data.toList i) / d ≤ 10 * dvL s.data.toList d i + dA s.data.toList i := Int.ediv_le_self d hX
    unfold dvF
    split
    · omega
    · split
      · omega
      · split <;> omega
  · omega
/-- One number changed. -/
def updI (F : Nat → Nat → Int) (i j : Nat) (u : Int) : Nat → Nat → Int := fun i' j' => if i' = i ∧ j' = j then u else F i' j'
theorem upd_IV (F : Nat → Nat → Int) (i j : Nat) (u : Int) : upd (IV F) i j (.int .i64 u) = IV (updI F i j u) := by
  funext i' j'
  unfold upd updI IV
  by_cases h : i' = i ∧ j' = j
  · simp [h]
  · simp [h]

/-- A write into memory of the call's own. -/
theorem set_fresh {w w' : World} {row : Option Nat} {p : Addr} {u : Value} (h : w.grownBy w' row) (hp : w.heap.size ≤ p.block) : w.grownBy (w'.setCell p u) row :=
  ⟨h.os, h.tape, h.output, by simpa [World.setCell] using h.size, fun k hk hr => (Below.heap_setCell w' p u k (by omega)).trans (h.block k hk hr)⟩
/-- What is drawn. -/
def DivPost (rb p : Nat) (w : World) (e : Ending) (w' : World) : Prop :=
  ∃ v d n F, e = .returned (.tuple #[v, .int .i64 d]) ∧ n ≤ 10 ∧ 0 ≤ d ∧ d ≤ 99 ∧ Own w' w.heap.size 60 4 v n (recCells 4 (IV F) n) ∧ ∃ p', p' ≤ p + 2000 ∧ Rdr w' rb p' ∧ w.grownBy w' (some rb)

set_option maxRecDepth 20000 in
set_option maxHeartbeats 8000000 in
theorem division_any (n : Int) (rb p : Nat) (w : World) (h : Rdr w rb p) (hp : p < 800000000) (hn : -1000 ≤ n) (hn1 : n ≤ 1000) :
    Calls Tryd.prog 87 #[.pointer (some ⟨rb, 0, none⟩), .int .i64 n] w (DivPost rb p w) := by
  have hrb := h.lt
  obtain ⟨i0, hi, hz0, hz1, hz2⟩ := info_parts infoStep
  go_enter Tryd.func87, Tryd.ntmps87
  go_wp2_with fail
  refine (pick_any _ _ _ _ h (by omega)).mono ?_
  rintro e w1 ⟨x1, rfl, hx1, hz1', hR1, hg1⟩
  obtain ⟨hx10, hx11⟩ := hx1 (by omega)
  clear hx1 hz1' h
  go_wp2_with fail
  refine (pick_any _ _ _ _ hR1 (by omega)).mono ?_
  rintro e w2 ⟨x2, rfl, hx2, hz2', hR2, hg2⟩
  clear hx2 hz2' hR1
  go_upto_if 14 with fail
  go_cut [6] (fun s6 wr => ∃ d : Int, s6 = .int .i64 d ∧ 1 ≤ d ∧ d ≤ 99 ∧ ∃ p', p' ≤ p + 3 ∧ Rdr wr rb p' ∧ w.grownBy wr (some rb))
  case first =>
    by_cases h0 : x2 = 0
    · have e0 : (x2 == 0) = true := by simp [h0]
      clear h0
      go_wp2_with fail
      refine (pick_any _ _ _ _ hR2 (by omega)).mono ?_
      rintro e w3 ⟨x3, rfl, hx3, hz3', hR3, hg3⟩
      obtain ⟨hx30, hx31⟩ := hx3 (by omega)
      clear hx3 hz3'
      go_wp2_with fail
      go_meet
      exact ⟨1 + x3, rfl, by omega, by omega, p + 1 + 1 + 1, by omega, hR3, (hg1.trans hg2).trans hg3⟩
    · have e0 : (x2 == 0) = false := beq_eq_false_iff_ne.2 h0
      clear h0
      go_wp2_with fail
      go_meet
      exact ⟨1 + x1, rfl, by omega, by omega, p + 1 + 1, by omega, hR2, hg1.trans hg2⟩
  case rest =>
    obtain ⟨d, rfl, hd1, hd2, p3, hp3, hR3, hg3⟩ := hcut
    clear hR2 hg1 hg2 hx10 hx11
    go_wp2_with fail
    refine (numeral_any _ _ _ _ _ hR3 (by omega) (by omega) (by omega) (by omega) (by omega)).mono ?_
    rintro e w4 ⟨s, rfl, hs, p4, hp4, hR4, hg4⟩
    go_wp2_with fail
    refine (sDivided s (by unfold maxLen; omega) d _).mono ?_
    rintro e w5 ⟨v, rfl, ho5, hb5⟩
    have hR5 := hR4.below hb5 hR4.lt
    have hg5 := (hg3.trans hg4).trans (grown_of_below hb5 _)
    have hF := fun i j hi => dvF_range s d i j hi
    have hln := dvN_len s d
    have hw4 : w.heap.size ≤ w4.heap.size := (hg3.trans hg4).size
    have ho5' : Own w5 w.heap.size 60 4 v (dvN s d) (recCells 4 (IV (dvF s.data.toList d)) (dvN s d)) := ho5.mono hw4
    clear hg3 hg4 hb5 hR3 hR4 ho5
    generalize dvF s.data.toList d = F at *
    generalize dvN s d = m at *
    have HF := Lib.hid hF
    clear hF
    go_wp2_with fail
    refine (odd_any _ _ _ _ hR5 (by omega) hn hn1).mono ?_
    rintro e w6 ⟨b, rfl, p6, hp6, hR6, hg6⟩
    have ho6 := ho5'.grown hg6 (by cases hv : v.ownBlock with
      | none => exact .inl rfl
      | some k => exact .inr fun e => by injection e with e; have := (ho5'.lt k hv).1; omega)
    have hgw := hg5.trans hg6
    clear hR5 hg5 hg6 ho5'
    cases b with
    | false =>
      go_wp2_with fail
      go_ret2
      exact ⟨v, d, m, F, rfl, by omega, by omega, hd2, ho6, p6, by omega, hR6, hgw⟩
    | true =>
    by_cases hm0 : m = 0
    · subst hm0
      obtain ⟨_, cap, rfl⟩ : ∃ a cap, v = .slice a 0 cap := by
        rcases ho6.2 with ⟨rfl, _⟩ | ⟨g, cap, cur, rfl, _⟩
        · exact ⟨_, _, rfl⟩
        · exact ⟨_, _, rfl⟩
      go_wp2_with fail
      go_ret2
      exact ⟨_, d, 0, F, rfl, by omega, by omega, hd2, ho6, p6, by omega, hR6, hgw⟩
    obtain ⟨g, cap, rfl, hnc, hcm, hgb, hgl, hcell, hfz⟩ := ho6.at_ (by omega)
    have Hcell := Lib.hid hcell
    have Hfz := Lib.hid hfz
    clear hcell hfz
    unfold maxLen at hcm
    go_wp2_with fail
    refine (pick_any _ _ _ _ hR6 (by omega)).mono ?_
    rintro e w7 ⟨x7, rfl, hx7, hz7, hR7, hg7⟩
    obtain ⟨hx70, hx71⟩ := hx7 (by omega)
    obtain ⟨k, rfl⟩ := Int.eq_ofNat_of_zero_le hx70
    clear hx7 hz7 hR6
    go_wp2_with fail
    refine (pick_any _ _ _ _ hR7 (by omega)).mono ?_
    rintro e w8 ⟨x8, rfl, hx8, hz8, hR8, hg8⟩
    obtain ⟨hx80, hx81⟩ := hx8 (by omega)
    obtain ⟨c, rfl⟩ := Int.eq_ofNat_of_zero_le hx80
    have hkm : k < m := by omega
    have hgr : ∀ {a b : World}, a.grownBy b (some rb) → (Value.slice (some ⟨g, 0, none⟩) m cap).ownBlock = none ∨ (Value.slice (some ⟨g, 0, none⟩) m cap).ownBlock ≠ some rb := fun _ => .inr fun e => by simp [Value.ownBlock] at e; omega
    have ho8 := (ho6.grown hg7 (hgr hg7)).grown hg8 (hgr hg8)
    have hgw8 := (hgw.trans hg7).trans hg8
    clear hx8 hz8 hR7 hg7 hg8 ho6 hgr hgw
    obtain ⟨g', cap', hv, _, _, _, hgl8, hcell8, hfz8⟩ := ho8.at_ (by omega)
    cases hv
    have hc : c = 0 ∨ c = 1 ∨ c = 2 ∨ c = 3 ∨ c = 4 ∨ c = 5 := by omega
    rcases hc with rfl | rfl | rfl | rfl | rfl | rfl
    · have HU := Lib.hid (recs_set ho8 hkm (show 2 < 4 by decide) (.int .i64 ((F k 2 + 1) % 10)))
      have b2 := HF.out k 2 hkm
      have cc : w8.cell? ⟨g, k * 4 + 2, none⟩ = _ := hcell8 _ _ (recCells_at (k := 4) (V := IV F) hkm (show 2 < 4 by decide))
      have zz := hfz8 (k * 4 + 2)
      simp only [IV] at cc
      have hR9 := hR8.keep (w' := w8.setCell ⟨g, k * 4 + 2, none⟩ (.int .i64 ((F k 2 + 1) % 10))) fun a ha => Below.heap_setCell w8 ⟨g, k * 4 + 2, none⟩ _ a (by simp; omega)
      have hgw9 : w.grownBy (w8.setCell ⟨g, k * 4 + 2, none⟩ (.int .i64 ((F k 2 + 1) % 10))) (some rb) := set_fresh hgw8 (by omega)
      clear hcell8 hfz8 ho8 hR8 hgw8
      go_wp2
      go_ret2
      exact ⟨_, d, m, updI F k 2 ((F k 2 + 1) % 10), rfl, by omega, by omega, hd2, by rw [← upd_IV]; exact HU.out, p6 + 1 + 1, by omega, hR9, hgw9⟩
    · have HU := Lib.hid (recs_set ho8 hkm (show 3 < 4 by decide) (.int .i64 (F k 3 + 1)))
      have b3 := HF.out k 3 hkm
      have cc : w8.cell? ⟨g, k * 4 + 3, none⟩ = _ := hcell8 _ _ (recCells_at (k := 4) (V := IV F) hkm (show 3 < 4 by decide))
      have zz := hfz8 (k * 4 + 3)
      simp only [IV] at cc
      have hR9 := hR8.keep (w' := w8.setCell ⟨g, k * 4 + 3, none⟩ (.int .i64 (F k 3 + 1))) fun a ha => Below.heap_setCell w8 ⟨g, k * 4 + 3, none⟩ _ a (by simp; omega)
      have hgw9 : w.grownBy (w8.setCell ⟨g, k * 4 + 3, none⟩ (.int .i64 (F k 3 + 1))) (some rb) := set_fresh hgw8 (by omega)
      clear hcell8 hfz8 ho8 hR8 hgw8
      go_wp2
      go_ret2
      exact ⟨_, d, m, updI F k 3 (F k 3 + 1), rfl, by omega, by omega, hd2, by rw [← upd_IV]; exact HU.out, p6 + 1 + 1, by omega, hR9, hgw9⟩
    · have HU := Lib.hid (recs_set (recs_set ho8 hkm (show 2 < 4 by decide) (.int .i64 (F k 2 - 1))) hkm (show 3 < 4 by decide) (.int .i64 (F k 3 + d)))
      have b2 := HF.out k 2 hkm
      have b3 := HF.out k 3 hkm
      have cc : w8.cell? ⟨g, k * 4 + 2, none⟩ = _ := hcell8 _ _ (recCells_at (k := 4) (V := IV F) hkm (show 2 < 4 by decide))
      have cd : w8.cell? ⟨g, k * 4 + 3, none⟩ = _ := hcell8 _ _ (recCells_at (k := 4) (V := IV F) hkm (show 3 < 4 by decide))
      have zz := hfz8 (k * 4 + 2)
      have zd := hfz8 (k * 4 + 3)
      simp only [IV] at cc cd
      have hR9 := hR8.keep (w' := (w8.setCell ⟨g, k * 4 + 2, none⟩ (.int .i64 (F k 2 - 1))).setCell ⟨g, k * 4 + 3, none⟩ (.int .i64 (F k 3 + d))) fun a ha => (Below.heap_setCell (w8.setCell ⟨g, k * 4 + 2, none⟩ (.int .i64 (F k 2 - 1))) ⟨g, k * 4 + 3, none⟩ _ a (by simp; omega)).trans (Below.heap_setCell w8 ⟨g, k * 4 + 2, none⟩ _ a (by simp; omega))
      have hgw9 : w.grownBy ((w8.setCell ⟨g, k * 4 + 2, none⟩ (.int .i64 (F k 2 - 1))).setCell ⟨g, k * 4 + 3, none⟩ (.int .i64 (F k 3 + d))) (some rb) := set_fresh (set_fresh hgw8 (by omega)) (by omega)
      clear hcell8 hfz8 ho8 hR8 hgw8
      go_wp2
      go_ret2
      exact ⟨_, d, m, updI (updI F k 2 (F k 2 - 1)) k 3 (F k 3 + d), rfl, by omega, by omega, hd2, by rw [← upd_IV, ← upd_IV]; exact HU.out, p6 + 1 + 1, by omega, hR9, hgw9⟩
    · have HU := Lib.hid (recs_set ho8 hkm (show 1 < 4 by decide) (.int .i64 (F k 1 + 10)))
      have b1 := HF.out k 1 hkm
      have cc : w8.cell? ⟨g, k * 4 + 1, none⟩ = _ := hcell8 _ _ (recCells_at (k := 4) (V := IV F) hkm (show 1 < 4 by decide))
      have zz := hfz8 (k * 4 + 1)
      simp only [IV] at cc
      have hR9 := hR8.keep (w' := w8.setCell ⟨g, k * 4 + 1, none⟩ (.int .i64 (F k 1 + 10))) fun a ha => Below.heap_setCell w8 ⟨g, k * 4 + 1, none⟩ _ a (by simp; omega)
      have hgw9 : w.grownBy (w8.setCell ⟨g, k * 4 + 1, none⟩ (.int .i64 (F k 1 + 10))) (some rb) := set_fresh hgw8 (by omega)
      clear hcell8 hfz8 ho8 hR8 hgw8
      go_wp2
      go_ret2
      exact ⟨_, d, m, updI F k 1 (F k 1 + 10), rfl, by omega, by omega, hd2, by rw [← upd_IV]; exact HU.out, p6 + 1 + 1, by omega, hR9, hgw9⟩
    · clear hcell8 hfz8
      go_wp2
      go_ret2
      exact ⟨_, 0, m, F, rfl, by omega, by omega, by omega, ho8, p6 + 1 + 1, by omega, hR8, hgw8⟩
    · clear hcell8 hfz8
      have hwl : w.heap.size ≤ w8.heap.size := hgw8.size
      go_wp2_with (first | (at_make; refine wpList_make_full _ rfl _ _ 39 rfl w8.heap.size 60 i0 _ 4 Tryd.underlying39 hi hz0 hz1 _ _ _ _ 10 rfl rfl rfl rfl (by rw [hz2]; omega) (by unfold maxLen; omega) (Nat.le_refl _) ?_; intro w9 hown1 hgr1))
      have hown0 : Own w9 w8.heap.size 60 4 (.slice (some ⟨w8.heap.size, 0, none⟩) 10 10) 10 (recCells 4 (IV fun _ _ => 0) 10) := by
        rw [zeroCells_recs 10 4 (.int .i64 0) (by decide) _ rfl] at hown1; exact Own.of_row hown1
      have hR9 := hR8.keep (w' := w9) fun a ha => hgr1.block a (by have := hR8.lt; omega) (by simp)
      have hgw9 := hgw8.trans (hgr1.but (some rb))
      clear hown1 hgr1
      go_wp2
      go_ret2
      exact ⟨_, d, 10, fun _ _ => 0, rfl, by omega, by omega, hd2, hown0.mono hwl, p6 + 1 + 1, by omega, hR9, hgw9⟩
end Go.Proofs.YtcpkjlgebghkgaaDoor
