/- Drawing exercises: the walk of l20Tests, and the draws of it. -/
import Derived.Test.YtfhefngpeknhlaaDoorAnsB
import Derived.Test.YtfhefngpeknhlaaDoorDrw
import Derived.Deep.DeepCutAuto
namespace Go.Proofs.YtfhefngpeknhlaaDoor
set_option linter.unusedVariables false
set_option linter.unusedSimpArgs false
open Go.RowKit

theorem snoc_cells (S : Nat → Nat → ByteArray) (m : Nat) (a b c : ByteArray) : ∃ F : Nat → Nat → ByteArray, recCells 3 (SV F) (m + 1) = recCells 3 (SV S) m ++ [.string a, .string b, .string c] ∧ ∀ i j, F i j = S i j ∨ F i j = a ∨ F i j = b ∨ F i j = c := by
  refine ⟨fun i j => if i < m then S i j else if j = 0 then a else if j = 1 then b else c, ?_, fun i j => ?_⟩
  · rw [recCells3_succ]
    congr 1
    · exact recCells_congr fun i hi j _ => by simp [SV, hi]
    · simp
  · dsimp only
    split
    · exact .inl rfl
    · split
      · exact .inr (.inl rfl)
      · split
        · exact .inr (.inr (.inl rfl))
        · exact .inr (.inr (.inr rfl))
/-- Growth in memory of the call's own. -/
theorem grown_fresh {w w1 w2 : World} {row r2 : Option Nat} (h1 : w.grownBy w1 row) (h2 : w1.grownBy w2 r2) (hr : ∀ k, r2 = some k → w.heap.size ≤ k) : w.grownBy w2 row :=
  ⟨h2.os.trans h1.os, h2.tape.trans h1.tape, h2.output.trans h1.output, Nat.le_trans h1.size h2.size, fun k hk hne => (h2.block k (Nat.lt_of_lt_of_le hk h1.size) (fun e => by have := hr k e.symm; omega)).trans (h1.block k hk hne)⟩
def updT (F : Nat → Nat → ByteArray) (i j : Nat) (u : ByteArray) : Nat → Nat → ByteArray := fun i' j' => if i' = i ∧ j' = j then u else F i' j'
theorem upd_SV (F : Nat → Nat → ByteArray) (i j : Nat) (u : ByteArray) : upd (SV F) i j (.string u) = SV (updT F i j u) := by
  funext i' j'
  unfold upd updT SV
  by_cases h : i' = i ∧ j' = j
  · simp [h]
  · simp [h]
theorem set_freshT {w w' : World} {row : Option Nat} {p : Addr} {u : Value} (h : w.grownBy w' row) (hp : w.heap.size ≤ p.block) : w.grownBy (w'.setCell p u) row :=
  ⟨h.os, h.tape, h.output, by simpa [World.setCell] using h.size, fun k hk hr => (Below.heap_setCell w' p u k (by omega)).trans (h.block k hk hr)⟩
theorem own_apart {w w' : World} {base : Nat} {e : TypeId} {sz : Nat} {v : Value} {n : Nat} {xs : List Value} {rb : Nat} (h : w.ownsRow base e sz v n xs) (hg : w.grownBy w' (some rb)) (hb : rb < base) : w'.ownsRow base e sz v n xs :=
  h.kept hg (by
    cases hv : v.ownBlock with
    | none => exact .inl rfl
    | some k => exact .inr fun e => by injection e with e; have := (h.lt k hv).1; omega)

theorem row_mono {w : World} {base base' : Nat} {e : TypeId} {sz : Nat} {v : Value} {n : Nat} {xs : List Value} (h : w.ownsRow base e sz v n xs) (hb : base' ≤ base) : w.ownsRow base' e sz v n xs := by
  refine ⟨h.1, ?_⟩
  rcases h.2 with hn | ⟨g, cap, cur, rfl, hbg, rest⟩
  · exact .inl hn
  · exact .inr ⟨g, cap, cur, rfl, Nat.le_trans hb hbg, rest⟩
/-- What is drawn. -/
def TtsPost (rb p : Nat) (w : World) (e : Ending) (w' : World) : Prop :=
  ∃ v n, ∃ S : Nat → Nat → ByteArray, e = .returned v ∧ n ≤ 7 ∧ (∀ i j, (S i j).size ≤ 110) ∧ Own w' w.heap.size 31 3 v n (recCells 3 (SV S) n) ∧ ∃ p', p' ≤ p + 10000 ∧ Rdr w' rb p' ∧ w.grownBy w' (some rb)

set_option maxRecDepth 20000 in
set_option maxHeartbeats 8000000 in
theorem tests_any (n : Int) (rb p : Nat) (w : World) (h : Rdr w rb p) (hp : p < 700000000) (hn : -1000 ≤ n) (hn1 : n ≤ 1000) :
    Calls Tryd.prog 62 #[.pointer (some ⟨rb, 0, none⟩), .int .i64 n] w (TtsPost rb p w) := by
  have hrb := h.lt
  obtain ⟨i0, hi, hz0, hz1, hz2⟩ := info_parts infoTest
  have hRa := h.keep (w' := w.alloc (.cells #[] 31)) fun j hj => heap_alloc_old w _ (by omega)
  have hga := World.grownBy_alloc w (.cells #[] 31) (some rb)
  have hnew := owns_new w w.heap.size 31 3 0 #[] (Nat.le_refl _) (by decide) rfl
  go_enter Tryd.func62, Tryd.ntmps62
  go_wp2_with fail
  refine (pick_any _ _ _ _ hRa (by omega)).mono ?_
  rintro e w1 ⟨x1, rfl, hx1, hz1', hR1, hg1⟩
  obtain ⟨hx10, hx11⟩ := hx1 (by omega)
  obtain ⟨m1, rfl⟩ := Int.eq_ofNat_of_zero_le hx10
  have hgw1 := hga.trans hg1
  have hown1 := own_apart hnew hg1 hrb
  clear hx1 hz1' hx10 hRa hga hnew hg1
  go_wp2_with fail
  go_loopg [5, 6, 7, 8] m1 (fun g s5 s6 s7 s8 wr => ∃ m : Nat, ∃ S : Nat → Nat → ByteArray, s6 = .int .i64 (g : Int) ∧ m + g ≤ 3 ∧ wr.ownsRow w.heap.size 31 3 s5 m (recCells 3 (SV S) m) ∧ Hid (∀ i j, (S i j).size ≤ 110) ∧ ∃ p', p' + 2100 * g ≤ p + 1 + 2100 * 3 ∧ Rdr wr rb p' ∧ w.grownBy wr (some rb))
  case atStart => exact ⟨0, fun _ _ => ByteArray.empty, rfl, by omega, by rw [recCells_zero]; exact hown1, Lib.hid fun _ _ => by show ByteArray.empty.size ≤ 110; decide, p + 1, by omega, hR1, hgw1⟩
  case round =>
    obtain ⟨m, S, rfl, hm3, hown, HS, p', hp', hR, hg⟩ := hrel
    clear hR1 hgw1 hown1
    by_cases hk : 0 < gk
    · go_wp2_with fail
      refine (numeral_any _ _ _ _ _ hR (by omega) (by omega) (by omega) (by omega) (by omega)).mono ?_
      rintro e w2 ⟨s, rfl, hs, p2, hp2, hR2, hg2⟩
      have hown2 := own_apart hown hg2 hrb
      have hgw2 := hg.trans hg2
      clear hown hg hg2 hR
      go_wp2_with fail
      refine (numeral_any _ _ _ _ _ hR2 (by omega) (by omega) (by omega) (by omega) (by omega)).mono ?_
      rintro e w3 ⟨t, rfl, ht, p3, hp3, hR3, hg3⟩
      have hown3 := own_apart hown2 hg3 hrb
      have hgw3 := hgw2.trans hg3
      clear hown2 hgw2 hg3 hR2
      go_wp2_with fail
      refine (sOrder s t (by unfold maxLen; omega) (by unfold maxLen; omega) _).mono ?_
      rintro e w4 ⟨rfl, b4⟩
      have hown4 := own_below hown3 b4
      have hR4 := hR3.below b4 hR3.lt
      have hgw4 := hgw3.trans (grown_of_below b4 _)
      have hs4 := hgw4.size
      clear hown3 hgw3 b4 hR3
      have HOwn := Lib.hid hown4
      have HG := Lib.hid hgw4
      have HR := Lib.hid hR4
      clear hown4 hgw4 hR4
      generalize ordI s.data.toList t.data.toList = o at *
      by_cases ho : o < 0
      · obtain ⟨F, hF1, hF2⟩ := snoc_cells S m t s ⟨#[48]⟩
        have HF := Lib.hid hF1
        have HFs : Hid (∀ i j, (F i j).size ≤ 110) := Lib.hid fun i j => by
          rcases hF2 i j with e | e | e | e <;> rw [e]
          · exact HS.out i j
          · exact ht
          · exact hs
          · decide
        clear hF1 hF2
        go_wp2_with (at_builtin; refine wpList_append_own _ rfl _ _ 23 rfl w.heap.size 31 i0 _ 3 48 Tryd.underlying23 hi hz0 hz1 hz2 rfl (by decide) _ _ _ rfl (HOwn.out.alloc _) ⟨w4.heap.size, 0, none⟩ 1 1 [.string t, .string s, .string ⟨#[48]⟩] rfl rfl (World.news_of_block (cs := #[.string t, .string s, .string ⟨#[48]⟩]) (t := 31) (fr := (0, 0)) (heap_alloc_new w4 _)) (by simp [Value.oneCell']) (by unfold maxLen; omega) (by omega) (by simp; omega) ?_; intro v' w5 hown' hgrow _)
        have hgr : ∀ j, (Value.ownBlock u5) = some j → w.heap.size ≤ j := fun j hj => (HOwn.out.lt j hj).1
        have hg5 := grown_fresh (HG.out.trans (World.grownBy_alloc w4 (.cells #[.string t, .string s, .string ⟨#[48]⟩] 31) (some rb))) hgrow hgr
        have hR5 := HR.out.keep (w' := w5) fun a ha => (hgrow.block a (by simp; omega) (fun e => by have := hgr a e.symm; omega)).trans (heap_alloc_old w4 _ (by omega))
        go_roundg (gk - 1)
        case measure => omega
        case rel => exact ⟨m + 1, F, by go_num, by omega, by rw [HF.out]; exact hown', HFs, p3, by omega, hR5, hg5⟩
      · obtain ⟨F, hF1, hF2⟩ := snoc_cells S m s t ⟨#[48]⟩
        have HF := Lib.hid hF1
        have HFs : Hid (∀ i j, (F i j).size ≤ 110) := Lib.hid fun i j => by
          rcases hF2 i j with e | e | e | e <;> rw [e]
          · exact HS.out i j
          · exact hs
          · exact ht
          · decide
        clear hF1 hF2
        go_wp2_with (at_builtin; refine wpList_append_own _ rfl _ _ 23 rfl w.heap.size 31 i0 _ 3 48 Tryd.underlying23 hi hz0 hz1 hz2 rfl (by decide) _ _ _ rfl (HOwn.out.alloc _) ⟨w4.heap.size, 0, none⟩ 1 1 [.string s, .string t, .string ⟨#[48]⟩] rfl rfl (World.news_of_block (cs := #[.string s, .string t, .string ⟨#[48]⟩]) (t := 31) (fr := (0, 0)) (heap_alloc_new w4 _)) (by simp [Value.oneCell']) (by unfold maxLen; omega) (by omega) (by simp; omega) ?_; intro v' w5 hown' hgrow _)
        have hgr : ∀ j, (Value.ownBlock u5) = some j → w.heap.size ≤ j := fun j hj => (HOwn.out.lt j hj).1
        have hg5 := grown_fresh (HG.out.trans (World.grownBy_alloc w4 (.cells #[.string s, .string t, .string ⟨#[48]⟩] 31) (some rb))) hgrow hgr
        have hR5 := HR.out.keep (w' := w5) fun a ha => (hgrow.block a (by simp; omega) (fun e => by have := hgr a e.symm; omega)).trans (heap_alloc_old w4 _ (by omega))
        go_roundg (gk - 1)
        case measure => omega
        case rel => exact ⟨m + 1, F, by go_num, by omega, by rw [HF.out]; exact hown', HFs, p3, by omega, hR5, hg5⟩
    · obtain rfl : gk = 0 := by omega
      go_wp2_with fail
      refine (pick_any _ _ _ _ hR (by omega)).mono ?_
      rintro e w2 ⟨x2, rfl, hx2, hz2', hR2, hg2⟩
      have hown2 := own_apart hown hg2 hrb
      have hgw2 := hg.trans hg2
      clear hown hg hg2 hR hx2 hz2'
      go_wp2_with fail
      refine (sAnswered _ _ u5 m S x2 (Recs.of_own (Own.of_row hown2)) (Nat.le_refl _) (fun i _ j _ => by have := HS.out i j; unfold maxLen; omega)).mono ?_
      rintro e w3 ⟨v3, rfl, o3, b3⟩
      have hs2 := hgw2.size
      have ho3 := row_mono o3 hs2
      have hR3 := hR2.below b3 hR2.lt
      have hgw3 := hgw2.trans (grown_of_below b3 _)
      have hn3 := abN_le S m x2
      have HS3 : Hid (∀ i j, (abS S x2 i j).size ≤ 110) := Lib.hid fun i j => abS_size S x2 110 (by decide) i j (HS.out i j)
      clear o3 hgw2 b3 hR2 hown2 HS
      generalize abN S m x2 = n3 at *
      generalize abS S x2 = S3 at *
      obtain ⟨g3, cap3, hv3⟩ : ∃ g cap, v3 = .slice g n3 cap := by
        rcases ho3.2 with ⟨rfl, h0⟩ | ⟨g, cap, cur, rfl, _⟩
        · exact ⟨none, 0, by rw [h0]⟩
        · exact ⟨_, _, rfl⟩
      subst hv3
      go_upto_region 11 with fail
      go_cut [43] (fun s43 wr => ∃ cb : Bool, s43 = .bool cb ∧ (cb = true → 0 < n3) ∧ wr.ownsRow w.heap.size 31 3 (.slice g3 n3 cap3) n3 (recCells 3 (SV S3) n3) ∧ ∃ p', p' ≤ p + 6400 ∧ Rdr wr rb p' ∧ w.grownBy wr (some rb))
      case first =>
        by_cases hn0 : 0 < n3
        · have i1 : (0 : Int) < (n3 : Int) := by omega
          go_wp2_with fail
          refine (pick_any _ _ _ _ hR3 (by omega)).mono ?_
          rintro e w4 ⟨x4, rfl, hx4, hz4, hR4, hg4⟩
          have ho4 := own_apart ho3 hg4 hrb
          have hgw4 := hgw3.trans hg4
          go_wp2_with fail
          go_meet
          exact ⟨_, rfl, fun _ => hn0, ho4, p' + 1 + 1, by omega, hR4, hgw4⟩
        · obtain rfl : n3 = 0 := by omega
          go_wp2_with fail
          go_meet
          exact ⟨false, rfl, fun h => absurd h (by decide), ho3, p' + 1, by omega, hR3, hgw3⟩
      case rest =>
        obtain ⟨cb, rfl, hcb, ho4, p4, hp4, hR4, hg4⟩ := hcut
        clear ho3 hR3 hgw3
        go_upto_if 43 with fail
        go_cut [] (fun wr => ∃ S' : Nat → Nat → ByteArray, Hid (∀ i j, (S' i j).size ≤ 110) ∧ wr.ownsRow w.heap.size 31 3 (.slice g3 n3 cap3) n3 (recCells 3 (SV S') n3) ∧ ∃ p', p' ≤ p + 8000 ∧ Rdr wr rb p' ∧ w.grownBy wr (some rb))
        case first =>
          cases cb with
          | false =>
            go_wp2_with fail
            go_meet
            exact ⟨S3, HS3, ho4, p4, by omega, hR4, hg4⟩
          | true =>
            have hn0 := hcb rfl
            go_wp2_with fail
            refine (numeral_any _ _ _ _ _ hR4 (by omega) (by omega) (by omega) (by omega) (by omega)).mono ?_
            rintro e w5 ⟨s, rfl, hs, p5, hp5, hR5, hg5⟩
            have ho5 := own_apart ho4 hg5 hrb
            have hgw5 := hg4.trans hg5
            obtain ⟨g, cap', hv, hnc, hcm, hgb, hgl, hcell, hfz⟩ := owns_at ho5 hn0
            cases hv
            have cc : w5.cell? ⟨g, 2, none⟩ = _ := hcell (0 * 3 + 2) _ (recCells_at (k := 3) (V := SV S3) hn0 (show 2 < 3 by decide))
            have zz := hfz 2
            have hU : (w5.setCell ⟨g, 2, none⟩ (.string s)).ownsRow w.heap.size 31 3 (.slice (some ⟨g, 0, none⟩) n3 cap3) n3 (recCells 3 (SV (updT S3 0 2 s)) n3) := by rw [← upd_SV, ← recCells_set hn0 (show 2 < 3 by decide)]; exact owns_set ho5 _ (by omega) (.string s)
            have HU := Lib.hid hU
            have HSU : Hid (∀ i j, (updT S3 0 2 s i j).size ≤ 110) := Lib.hid fun i j => by
              unfold updT
              split
              · exact hs
              · exact HS3.out i j
            have hR6 := hR5.keep (w' := w5.setCell ⟨g, 2, none⟩ (.string s)) fun a ha => Below.heap_setCell w5 ⟨g, 2, none⟩ _ a (by simp; omega)
            have hgw6 : w.grownBy (w5.setCell ⟨g, 2, none⟩ (.string s)) (some rb) := set_freshT hgw5 hgb
            unfold maxLen at hcm
            have i1 : (0 : Int) < (n3 : Int) := by omega
            clear hcell hfz hR5 hR4 hg4 hg5 hgw5 ho4 ho5 hU
            go_wp2_with fail
            go_meet
            exact ⟨_, HSU, HU.out, p5, by omega, hR6, hgw6⟩
        case rest =>
          obtain ⟨S5, HS5, ho5, p5, hp5, hR5, hg5⟩ := hcut
          clear ho4 hR4 hg4 hcb HS3
          go_wp2_with fail
          refine (odd_any _ _ _ _ hR5 (by omega) hn hn1).mono ?_
          rintro e w6 ⟨b, rfl, p6, hp6, hR6, hg6⟩
          have ho6 := own_apart ho5 hg6 hrb
          have hgw6 := hg5.trans hg6
          clear ho5 hR5 hg5 hg6
          cases b with
          | false =>
            go_wp2_with fail
            go_ret
            exact ⟨_, n3, S5, rfl, by omega, HS5.out, Own.of_row ho6, p6, by omega, hR6, hgw6⟩
          | true =>
            go_wp2_with fail
            refine (pick_any _ _ _ _ hR6 (by omega)).mono ?_
            rintro e w7 ⟨x7, rfl, hx7, hz7, hR7, hg7⟩
            have ho7 := own_apart ho6 hg7 hrb
            have hgw7 := hgw6.trans hg7
            have hs7 := hgw7.size
            clear ho6 hR6 hg7 hgw6 hx7 hz7
            by_cases h0 : x7 = 0
            · have e0 : (x7 == 0) = true := by simp [h0]
              clear h0
              obtain ⟨F, hF1, hF2⟩ := snoc_cells S5 n3 ⟨#[49]⟩ ⟨#[50]⟩ ⟨#[49]⟩
              have HF := Lib.hid hF1
              have HFs : Hid (∀ i j, (F i j).size ≤ 110) := Lib.hid fun i j => by
                rcases hF2 i j with e | e | e | e <;> rw [e]
                · exact HS5.out i j
                · decide
                · decide
                · decide
              have HOwn := Lib.hid ho7
              have HG := Lib.hid hgw7
              have HR := Lib.hid hR7
              clear hF1 hF2 ho7 hgw7 hR7
              go_wp2_with (at_builtin; refine wpList_append_own _ rfl _ _ 23 rfl w.heap.size 31 i0 _ 3 48 Tryd.underlying23 hi hz0 hz1 hz2 rfl (by decide) _ _ _ rfl (HOwn.out.alloc _) ⟨w7.heap.size, 0, none⟩ 1 1 [.string ⟨#[49]⟩, .string ⟨#[50]⟩, .string ⟨#[49]⟩] rfl rfl (World.news_of_block (cs := #[.string ⟨#[49]⟩, .string ⟨#[50]⟩, .string ⟨#[49]⟩]) (t := 31) (fr := (0, 0)) (heap_alloc_new w7 _)) (by simp [Value.oneCell']) (by unfold maxLen; omega) (by omega) (by simp; omega) ?_; intro v' w8 hown' hgrow _)
              have hgr : ∀ j, (Value.ownBlock (.slice g3 n3 cap3)) = some j → w.heap.size ≤ j := fun j hj => (HOwn.out.lt j hj).1
              have hg8 := grown_fresh (HG.out.trans (World.grownBy_alloc w7 (.cells #[.string ⟨#[49]⟩, .string ⟨#[50]⟩, .string ⟨#[49]⟩] 31) (some rb))) hgrow hgr
              have hR8 := HR.out.keep (w' := w8) fun a ha => (hgrow.block a (by simp; omega) (fun e => by have := hgr a e.symm; omega)).trans (heap_alloc_old w7 _ (by omega))
              go_ret
              exact ⟨v', n3 + 1, F, rfl, by omega, HFs.out, by rw [HF.out]; exact Own.of_row hown', p6 + 1, by omega, hR8, hg8⟩
            · have e0 : (x7 == 0) = false := beq_eq_false_iff_ne.2 h0
              clear h0
              go_wp2_with (first | (at_make; refine wpList_make_full _ rfl _ _ 23 rfl w7.heap.size 31 i0 _ 3 Tryd.underlying23 hi hz0 hz1 _ _ _ _ 7 rfl rfl rfl rfl (by rw [hz2]; omega) (by unfold maxLen; omega) (Nat.le_refl _) ?_; intro w8 hown1 hgr1))
              have hown0 : Own w8 w7.heap.size 31 3 (.slice (some ⟨w7.heap.size, 0, none⟩) 7 7) 7 (recCells 3 (SV fun _ _ => ByteArray.empty) 7) := by
                rw [zeroCells_recs 7 3 (.string ByteArray.empty) (by decide) _ rfl] at hown1; exact Own.of_row hown1
              have hR8 := hR7.keep (w' := w8) fun a ha => hgr1.block a (by have := hR7.lt; omega) (by simp)
              have hg8 := hgw7.trans (hgr1.but (some rb))
              clear hown1 hgr1
              go_wp2_with fail
              go_ret
              exact ⟨_, 7, fun _ _ => ByteArray.empty, rfl, by omega, fun _ _ => by show ByteArray.empty.size ≤ 110; decide, hown0.mono hs7, p6 + 1, by omega, hR8, hg8⟩
/-- Exercises, drawn. -/
theorem draw_Ways (A : Option Addr) (len cap : Nat) (w : World) (hc : CodeIn w A len cap) : Calls Tryd.prog 22 #[.slice A len cap] w fun e w' => ∃ v n, ∃ S : Nat → Nat → ByteArray, e = .returned v ∧ n ≤ 7 ∧ (∀ i j, (S i j).size ≤ 110) ∧ Own w' w.heap.size 31 3 v n (recCells 3 (SV S) n) ∧ Below w.heap.size w w' := by
  go_enter Tryd.func22, Tryd.ntmps22
  go_wp2_with fail
  refine (open_any A len cap _ hc).mono ?_
  rintro e w0 ⟨rfl, hR0, hB0⟩
  go_wp2_with fail
  refine (tests_any _ _ _ _ hR0 (by omega) (by omega) (by omega)).mono ?_
  rintro e w1 ⟨v, n, S, rfl, hn, hS, ho, p1, hp1, hR1, hg1⟩
  have hB1 := hB0.grown hg1 hB0.size (fun k hk => by cases hk; exact Nat.le_refl _)
  have ho' := ho.mono hB0.size
  go_wp2_with fail
  go_ret
  exact ⟨v, n, S, rfl, hn, hS, ho', hB1⟩
/-- Exercises, drawn. -/
theorem draw_Simple (A : Option Addr) (len cap : Nat) (w : World) (hc : CodeIn w A len cap) : Calls Tryd.prog 48 #[.slice A len cap] w fun e w' => ∃ v n, ∃ S : Nat → Nat → ByteArray, e = .returned v ∧ n ≤ 7 ∧ (∀ i j, (S i j).size ≤ 110) ∧ Own w' w.heap.size 31 3 v n (recCells 3 (SV S) n) ∧ Below w.heap.size w w' := by
  go_enter Tryd.func48, Tryd.ntmps48
  go_wp2_with fail
  refine (open_any A len cap _ hc).mono ?_
  rintro e w0 ⟨rfl, hR0, hB0⟩
  go_wp2_with fail
  refine (tests_any _ _ _ _ hR0 (by omega) (by omega) (by omega)).mono ?_
  rintro e w1 ⟨v, n, S, rfl, hn, hS, ho, p1, hp1, hR1, hg1⟩
  have hB1 := hB0.grown hg1 hB0.size (fun k hk => by cases hk; exact Nat.le_refl _)
  have ho' := ho.mono hB0.size
  go_wp2_with fail
  go_ret
  exact ⟨v, n, S, rfl, hn, hS, ho', hB1⟩
/-- Exercises, drawn. -/
theorem draw_Score (A : Option Addr) (len cap : Nat) (w : World) (hc : CodeIn w A len cap) : Calls Tryd.prog 43 #[.slice A len cap] w fun e w' => ∃ v n, ∃ S : Nat → Nat → ByteArray, e = .returned v ∧ n ≤ 7 ∧ (∀ i j, (S i j).size ≤ 110) ∧ Own w' w.heap.size 31 3 v n (recCells 3 (SV S) n) ∧ Below w.heap.size w w' := by
  go_enter Tryd.func43, Tryd.ntmps43
  go_wp2_with fail
  refine (open_any A len cap _ hc).mono ?_
  rintro e w0 ⟨rfl, hR0, hB0⟩
  go_wp2_with fail
  refine (tests_any _ _ _ _ hR0 (by omega) (by omega) (by omega)).mono ?_
  rintro e w1 ⟨v, n, S, rfl, hn, hS, ho, p1, hp1, hR1, hg1⟩
  have hB1 := hB0.grown hg1 hB0.size (fun k hk => by cases hk; exact Nat.le_refl _)
  have ho' := ho.mono hB0.size
  go_wp2_with fail
  go_ret
  exact ⟨v, n, S, rfl, hn, hS, ho', hB1⟩
/-- Exercises, drawn. -/
theorem draw_Apart (A : Option Addr) (len cap : Nat) (w : World) (hc : CodeIn w A len cap) : Calls Tryd.prog 40 #[.slice A len cap] w fun e w' => ∃ v n, ∃ S : Nat → Nat → ByteArray, e = .returned v ∧ n ≤ 7 ∧ (∀ i j, (S i j).size ≤ 110) ∧ Own w' w.heap.size 31 3 v n (recCells 3 (SV S) n) ∧ Below w.heap.size w w' := by
  go_enter Tryd.func40, Tryd.ntmps40
  go_wp2_with fail
  refine (open_any A len cap _ hc).mono ?_
  rintro e w0 ⟨rfl, hR0, hB0⟩
  go_wp2_with fail
  refine (tests_any _ _ _ _ hR0 (by omega) (by omega) (by omega)).mono ?_
  rintro e w1 ⟨v, n, S, rfl, hn, hS, ho, p1, hp1, hR1, hg1⟩
  have hB1 := hB0.grown hg1 hB0.size (fun k hk => by cases hk; exact Nat.le_refl _)
  have ho' := ho.mono hB0.size
  go_wp2_with fail
  go_ret
  exact ⟨v, n, S, rfl, hn, hS, ho', hB1⟩
end Go.Proofs.YtfhefngpeknhlaaDoor
