/- The walk of the program's AnsweredBy: a copy of the list, its answers written. -/
import Derived.Test.YtfhefngpeknhlaaDoorAnsB
namespace Go.Proofs.YtfhefngpeknhlaaDoor
set_option linter.unusedVariables false
set_option linter.unusedSimpArgs false
open Go.RowKit

theorem clipTests (v : Value) (n : Nat) (base : Nat) (xs : List Value) (w : World) (h : Own w base 31 3 v n xs) :
    Calls Tryd.prog 88 #[v] w fun e w' => ∃ v', e = .returned v' ∧ Own w base 31 3 v' n xs ∧ w = w' := by
  obtain ⟨h1, h2⟩ := h
  rcases h2 with ⟨rfl, rfl⟩ | ⟨g, cap, cur, rfl, hb, hg, hnc, hcm, hcs, ht⟩
  · go_enter Tryd.func88, Tryd.ntmps88
    go_wp2_with fail
    go_ret
    exact ⟨_, rfl, ⟨h1, .inl ⟨rfl, rfl⟩⟩, rfl⟩
  · have hcm' := hcm
    unfold maxLen at hcm'
    go_enter Tryd.func88, Tryd.ntmps88
    go_wp2_with fail
    go_ret
    exact ⟨_, rfl, ⟨h1, .inr ⟨g, n, cur, rfl, hb, hg, Nat.le_refl _, by omega, hcs, ht⟩⟩, rfl⟩

set_option maxRecDepth 20000 in
set_option maxHeartbeats 4000000 in
theorem copyTests (w : World) (B : Nat) (v : Value) (n : Nat) (S : Nat → Nat → ByteArray) (hR : Recs w B v n 3 (SV S)) (hBw : B ≤ w.heap.size) (hn : n ≤ 1000) :
    Calls Tryd.prog 89 #[v] w (TestsP n S w) := by
  obtain ⟨A, cap, rfl, hnc, hcm, hcell⟩ := hR
  have q22 : ∀ (w : World) (a : Option Addr) (n c n' c' : Nat), (binOp .eql 23 (.slice a n c) (.slice none n' c')).run Tryd.prog w = .ok (.bool a.isNone) w := fun w a n c n' c' => Lib.run_eql_slice_nil w _ _ a n c n' c' Tryd.underlying23
  unfold maxLen at hcm
  obtain ⟨i0, hi, hz0, hz1, hz2⟩ := info_parts infoTest
  have Hc := Lib.hid hcell
  clear hcell
  cases A with
  | none =>
    have hn0 : n = 0 := by
      by_cases h : 0 < n
      · obtain ⟨b, o, e, _⟩ := Hc.out h
        cases e
      · omega
    subst hn0
    go_enter Tryd.func89, Tryd.ntmps89
    go_wp2_with fail
    go_ret
    exact ⟨_, rfl, by rw [recCells_zero]; exact Own.nil _ _ _ _, Below.refl _ _⟩
  | some ad =>
    have HN : Hid (∀ j u, (recCells 3 (SV S) n)[j]? = some u → (w.alloc (.cells #[] 31)).cell? (ad.add j) = some u) := Lib.hid fun j u hj => by
      have hjl := (List.getElem?_eq_some_iff.1 hj).1
      rw [recCells_length] at hjl
      have hn0 : 0 < n := by omega
      obtain ⟨b, o, e, hb, hc⟩ := Hc.out hn0
      cases e
      have hq : j / 3 < n := by omega
      have hr : j % 3 < 3 := Nat.mod_lt _ (by decide)
      have e' : j = (j / 3) * 3 + j % 3 := by omega
      rw [Go.WideShapes.add_plain, World.cell?_alloc_past _ _ _ (by omega)]
      have h1 := hc (j / 3) hq (j % 3) hr
      rw [Nat.add_assoc, ← e'] at h1
      rw [h1]
      rw [e', recCells_at hq hr] at hj
      exact hj
    have hnew := owns_new w w.heap.size 31 3 0 #[] (Nat.le_refl _) (by decide) rfl
    have hone : ∀ u ∈ recCells 3 (SV S) n, u.oneCell' = true := by
      intro u hu
      simp only [recCells, List.mem_map] at hu
      obtain ⟨m, _, rfl⟩ := hu
      rfl
    have hlen : (recCells 3 (SV S) n).length = n * 3 := recCells_length _ _ _
    clear Hc
    have HOne := Lib.hid hone
    clear hone
    generalize hcs : recCells 3 (SV S) n = cs at *
    have HCs := Lib.hid hcs
    clear hcs
    go_enter Tryd.func89, Tryd.ntmps89
    go_wp2_with (at_builtin; refine wpList_append_own _ rfl _ _ 23 rfl w.heap.size 31 i0 _ 3 48 Tryd.underlying23 hi hz0 hz1 hz2 rfl (by decide) _ _ _ rfl hnew ad n cap cs rfl hlen HN.out HOne.out (by unfold maxLen; omega) (by omega) (by simp) ?_; intro v' w1 hown' hgrow _)
    have hown2 : w1.ownsRow w.heap.size 31 3 v' n cs := by simpa using hown'
    have hB : Below w.heap.size w w1 := ((Below.refl _ w).alloc (Nat.le_refl _) (.cells #[] 31)).grown hgrow (by simp) (fun k hk => (hnew.lt k hk).1)
    clear hown' hgrow
    go_wp2_with fail
    go_ret
    exact ⟨v', rfl, by rw [HCs.out]; exact Own.of_row hown2, hB⟩

theorem cloneTests (w : World) (B : Nat) (v : Value) (n : Nat) (S : Nat → Nat → ByteArray) (hR : Recs w B v n 3 (SV S)) (hBw : B ≤ w.heap.size) (hn : n ≤ 1000) :
    Calls Tryd.prog 56 #[v] w (TestsP n S w) := by
  have HC := Lib.hid (copyTests w B v n S hR hBw hn)
  clear hR
  go_enter Tryd.func56, Tryd.ntmps56
  go_wp2_with fail
  refine HC.out.mono ?_
  rintro e w1 ⟨v1, rfl, o1, b1⟩
  go_wp2_with fail
  refine (clipTests _ _ _ _ _ o1).mono ?_
  rintro e w2 ⟨v2, rfl, o2, rfl⟩
  go_wp2_with fail
  go_ret
  exact ⟨v2, rfl, o2, b1⟩

theorem ab_mix (S : Nat → Nat → ByteArray) (way : Int) (k n : Nat) : recCells 3 (upd (mix (SV (abS S way)) (SV S) k) k 2 (.string (tkS (S k 0).data.toList (S k 1).data.toList way))) n = recCells 3 (mix (SV (abS S way)) (SV S) (k + 1)) n := by
  apply recCells_congr
  intro a _ j hj
  rw [mix_succ]
  unfold upd
  by_cases ha : a = k
  · subst ha
    rcases (show j = 0 ∨ j = 1 ∨ j = 2 by omega) with rfl | rfl | rfl <;> simp [mix, SV, abS]
  · simp [ha]

set_option maxRecDepth 20000 in
set_option maxHeartbeats 8000000 in
theorem iAnswered (w : World) (B : Nat) (v : Value) (n : Nat) (S : Nat → Nat → ByteArray) (way : Int) (hR : Recs w B v n 3 (SV S)) (hBw : B ≤ w.heap.size) (hS : ∀ i, i < n → ∀ j, j < 3 → (S i j).size ≤ maxLen) :
    Calls Tryd.prog 16 #[v, .int .i64 way] w (TestsP (abN S n way) (abS S way) w) := by
  have HT := Lib.hid (iTestsOk w B v n S hR hBw hS)
  cases hk : tokB S n with
  | false =>
    have e0 : abN S n way = 0 := if_neg fun h => by rw [hk] at h; exact absurd h.1 (by decide)
    rw [e0]
    rw [hk] at HT
    clear hk hS hR e0
    go_enter Tryd.func16, Tryd.ntmps16
    go_wp2_with fail
    refine HT.out.mono ?_
    rintro e w1 ⟨rfl, b1⟩
    go_wp2_with fail
    go_ret
    exact ⟨_, rfl, by rw [recCells_zero]; exact Own.nil _ _ _ _, b1⟩
  | true =>
    rw [hk] at HT
    by_cases hw : 0 ≤ way ∧ way ≤ 15
    rotate_left
    · have e0 : abN S n way = 0 := if_neg fun h => hw h.2
      rw [e0]
      have hw' : way < 0 ∨ 15 < way := by omega
      clear hk hS hR e0 hw
      go_enter Tryd.func16, Tryd.ntmps16
      go_wp2_with fail
      refine HT.out.mono ?_
      rintro e w1 ⟨rfl, b1⟩
      go_wp2_with fail
      refine (isWay_f _ _ hw').mono ?_
      rintro e w2 ⟨rfl, rfl⟩
      go_wp2_with fail
      go_ret
      exact ⟨_, rfl, by rw [recCells_zero]; exact Own.nil _ _ _ _, b1⟩
    have e0 : abN S n way = n := if_pos ⟨hk, hw⟩
    rw [e0]
    obtain ⟨h0, h1⟩ := hw
    have hn6 := tokB_len hk
    have HTk := Lib.hid fun k (hlt : k < n) W => takenBy_any (S k 0) (S k 1) way (hS k hlt 0 (by omega)) (hS k hlt 1 (by omega)) (takB_num (tokB_at hk hlt)).1 (takB_num (tokB_at hk hlt)).2 h0 h1 W
    have HR := Lib.hid hR
    have HM := Lib.hid fun k => ab_mix S way k n
    clear hk hS hR e0
    go_enter Tryd.func16, Tryd.ntmps16
    go_wp2_with fail
    refine HT.out.mono ?_
    rintro e w1 ⟨rfl, b1⟩
    have hR1 := HR.out.below b1 hBw
    go_wp2_with fail
    refine (isWay_t _ _ h0 h1).mono ?_
    rintro e w2 ⟨rfl, rfl⟩
    go_wp2_with fail
    refine (cloneTests _ B _ n S hR1 (by have := b1.size; omega) (by omega)).mono ?_
    rintro e w2 ⟨v2, rfl, o2, b2⟩
    have hB2 := below_own b1 b2 b1.size
    have ho2 := o2.mono b1.size
    clear hR1 o2 b1 b2 HT HR
    by_cases hz : n = 0
    · subst hz
      obtain ⟨A2, cap2, hv2⟩ : ∃ A cap, v2 = .slice A 0 cap := by
        rcases ho2.2 with ⟨rfl, _⟩ | ⟨g, cap, cur, rfl, _⟩
        · exact ⟨none, 0, rfl⟩
        · exact ⟨_, _, rfl⟩
      subst hv2
      go_wp2_with fail
      refine wp_loop_rounds 1 ?_
      rw [rounds_succ]
      go_wp2_with fail
      go_ret
      exact ⟨_, rfl, by rw [recCells_zero] at ho2 ⊢; exact ho2, hB2⟩
    have hz' : 0 < n := by omega
    obtain ⟨g, cap2, rfl, hnc2, hcm2, _, hgl, _, _⟩ := ho2.at_ hz'
    have hown0 : Own w2 w.heap.size 31 3 (.slice (some ⟨g, 0, none⟩) n cap2) n (recCells 3 (mix (SV (abS S way)) (SV S) 0) n) := by rw [mix_zero]; exact ho2
    have hgb := (ho2.lt g rfl).1
    unfold maxLen at hcm2
    clear hz ho2
    go_wp2_with fail
    go_loopg [6, 7, 20] n (fun gh s6 s7 s20 wr => ∃ k : Nat, gh + k = n ∧ s20 = .int .i64 k ∧ Own wr w.heap.size 31 3 (.slice (some ⟨g, 0, none⟩) n cap2) n (recCells 3 (mix (SV (abS S way)) (SV S) k) n) ∧ Below w.heap.size w wr)
    case atStart => exact ⟨0, rfl, rfl, hown0, hB2⟩
    case round =>
      obtain ⟨k, hk, rfl, hown, hB⟩ := hrel
      by_cases hlt : k < n
      · obtain ⟨g', cap', hv, _, _, _, hgw, hcell, hfz⟩ := hown.at_ hz'
        cases hv
        have m0 : ∀ j, mix (SV (abS S way)) (SV S) k k j = .string (S k j) := fun j => by simp [mix, SV]
        have e0 : wr.cell? ⟨g, k * 3, none⟩ = some (.string (S k 0)) := by rw [← m0]; exact hcell (k * 3 + 0) _ (recCells_at (k := 3) hlt (show 0 < 3 by decide))
        have e1 : wr.cell? ⟨g, k * 3 + 1, none⟩ = some (.string (S k 1)) := by rw [← m0]; exact hcell (k * 3 + 1) _ (recCells_at (k := 3) hlt (show 1 < 3 by decide))
        have e2 : wr.cell? ⟨g, k * 3 + 2, none⟩ = some (.string (S k 2)) := by rw [← m0]; exact hcell (k * 3 + 2) _ (recCells_at (k := 3) hlt (show 2 < 3 by decide))
        have HK := Lib.hid (HTk.out k hlt)
        have HX := Lib.hid (HM.out k)
        have HOwn := Lib.hid hown
        clear hcell hfz m0 hown
        generalize tkS (S k 0).data.toList (S k 1).data.toList way = x at *
        generalize S k 0 = q0 at *
        generalize S k 1 = q1 at *
        generalize S k 2 = q2 at *
        have hbr := (Below.refl wr.heap.size wr).alloc (Nat.le_refl _) (.cells #[.string q0, .string q1, .string q2] 31)
        have hbel := hB.alloc hB.size (.cells #[.string q0, .string q1, .string q2] 31)
        have hW : ∀ j u, (#[Value.string q0, .string q1, .string q2])[j]? = some u → (wr.alloc (.cells #[.string q0, .string q1, .string q2] 31)).cell? ⟨wr.heap.size, j, none⟩ = some u := fun j u hj => by rw [World.cell?_alloc_mark, hj]
        have f0 := hW 0 _ rfl
        have f1 := hW 1 _ rfl
        have HB2 := Lib.hid hbel
        have HO2 := Lib.hid (HOwn.out.below hbr)
        clear hW hB hbel hbr HOwn
        go_wp2_with fail
        generalize hw1 : wr.alloc (.cells #[.string q0, .string q1, .string q2] 31) = wz at *
        clear hw1 e0 e1 e2
        refine (HK.out _).mono ?_
        rintro e w3 ⟨rfl, b3⟩
        have o3 := HO2.out.below b3
        have hB3 := below_own HB2.out b3 HB2.out.size
        obtain ⟨g', cap', hv, _, _, _, hgw3, hcell, hfz⟩ := o3.at_ hz'
        cases hv
        have c2 := hcell _ _ (recCells_at (k := 3) hlt (show 2 < 3 by decide))
        have z2 := hfz (k * 3 + 2)
        have HO3 := Lib.hid (recs_set o3 hlt (show 2 < 3 by decide) (.string x))
        have hB4 := hB3.setCell (p := ⟨g, k * 3 + 2, none⟩) hgb (.string x)
        clear hcell hfz o3 b3 hB3 f0 f1 HO2 HB2
        go_wp2_with fail
        go_roundg (gk - 1)
        case measure => omega
        case rel => exact ⟨k + 1, by omega, by go_num, by rw [← HX.out]; exact HO3.out, hB4⟩
      · obtain rfl : k = n := by omega
        go_wp2_with fail
        go_ret
        exact ⟨_, rfl, by rw [mix_all] at hown; exact hown, hB⟩
end Go.Proofs.YtfhefngpeknhlaaDoor
