/- The law on NextTest: the next exercise leaves least. -/
import Derived.Test.YtfhefngpeknhlaaDoorNx
import Derived.Test.YtfhefngpeknhlaaDoorAnsI
import Derived.Test.YtfhefngpeknhlaaDoorLst
namespace Go.Proofs.YtfhefngpeknhlaaDoor
set_option linter.unusedVariables false
set_option linter.unusedSimpArgs false
open Go.RowKit Go.Maps

theorem nxB_best {G : Nat → Nat} (hG : ∀ k, G k ≤ 16) : ∀ {k : Nat}, 0 < k → ∃ x : Nat, x < k ∧ nxB G k = ((x : Int), G x) ∧ (∀ j, j < k → G x ≤ G j) ∧ ∀ j, j < x → G x < G j := by
  intro k
  induction k with
  | zero => intro h; omega
  | succ k ih =>
    intro _
    rcases Nat.eq_zero_or_pos k with e | e
    · subst e
      have h0 : nxB G 1 = (((0 : Nat) : Int), G 0) := nxB_yes (show G 0 < 17 by have := hG 0; omega)
      exact ⟨0, by omega, h0, fun j hj => by obtain rfl : j = 0 := by omega
                                             exact Nat.le_refl _, fun j hj => by omega⟩
    · obtain ⟨x, hx, e1, h1, h2⟩ := ih e
      by_cases h : G k < (nxB G k).2
      · rw [nxB_yes h]
        rw [e1] at h
        have h : G k < G x := h
        refine ⟨k, by omega, rfl, fun j hj => ?_, fun j hj => ?_⟩
        · by_cases ej : j = k
          · subst ej; exact Nat.le_refl _
          · have := h1 j (by omega); omega
        · have := h1 j hj; omega
      · rw [nxB_no h]
        rw [e1] at h
        have h : ¬ G k < G x := h
        refine ⟨x, by omega, e1, fun j hj => ?_, h2⟩
        by_cases ej : j = k
        · subst ej; omega
        · exact h1 j (by omega)
theorem exp_ans {q : Nat → ByteArray} {xs : List Int} (hk : tokB (fun _ => q) 1 = true) (hx : ∀ j, j < xs.length → 0 ≤ xs.getD j 0 ∧ xs.getD j 0 ≤ 15) {i j : Nat} (hi : i < xs.length) (hj : j < xs.length) :
    expB (abS (fun _ => q) (xs.getD j 0)) 1 (xs.getD i 0) = (ansK (q 0).data.toList (q 1).data.toList xs j == ansK (q 0).data.toList (q 1).data.toList xs i) := by
  obtain ⟨h1, h2⟩ := hx i hi
  obtain ⟨h3, h4⟩ := hx j hj
  obtain ⟨a, ha⟩ := Int.eq_ofNat_of_zero_le h1
  obtain ⟨b, hb⟩ := Int.eq_ofNat_of_zero_le h3
  have h := exp_key (S := fun _ => q) (n := 1) hk b a (by omega)
  rw [keyT_one, keyT_one] at h
  unfold ansK
  rw [ha, hb]
  exact h

set_option maxRecDepth 20000 in
set_option maxHeartbeats 1000000 in
theorem draw_Next (A : Option Addr) (len cap : Nat) (w : World) (hc : CodeIn w A len cap) : Calls Tryd.prog 52 #[.slice A len cap] w fun e w' =>
    ∃ v n, ∃ S : Nat → Nat → ByteArray, ∃ v2 m, ∃ F : Nat → Nat → ByteArray, e = .returned (.tuple #[v, v2]) ∧ n ≤ 7 ∧ m ≤ 7 ∧ (∀ i j, (S i j).size ≤ 110) ∧ (∀ i j, (F i j).size ≤ 110) ∧ Own w' w.heap.size 31 3 v n (recCells 3 (SV S) n) ∧ Own w' w.heap.size 31 3 v2 m (recCells 3 (SV F) m) ∧ Below w.heap.size w w' := by
  go_enter Tryd.func52, Tryd.ntmps52
  go_wp2_with fail
  refine (open_any A len cap _ hc).mono ?_
  rintro e w0 ⟨rfl, hR0, hB0⟩
  go_wp2_with fail
  refine (tests_any _ _ _ _ hR0 (by omega) (by omega) (by omega)).mono ?_
  rintro e w1 ⟨v, n, S, rfl, hn, hS, ho, p1, hp1, hR1, hg1⟩
  have hB1 := hB0.grown hg1 hB0.size (fun k hk => by cases hk; exact Nat.le_refl _)
  have hrb := hR0.lt
  have hsz := hB0.size
  have hsz1 := hB1.size
  clear hg1 hR0 hB0
  go_wp2_with fail
  refine (tests_any _ _ _ _ hR1 (by omega) (by omega) (by omega)).mono ?_
  rintro e w2 ⟨v2, m, F, rfl, hm, hF, ho2, p2, hp2, hR2, hg2⟩
  have hB2 := hB1.grown hg2 hsz1 (fun k hk => by cases hk; exact Nat.le_refl _)
  have ho' := own_apartO ho hg2 hrb
  go_wp2_with fail
  go_ret2
  exact ⟨v, n, S, v2, m, F, rfl, hn, hm, hS, hF, Own.mono ho' hsz, Own.mono ho2 hsz1, hB2⟩

set_option maxRecDepth 20000 in
set_option maxHeartbeats 8000000 in
/-- The law on NextTest. -/
theorem law_NextTest (A : Option Addr) (len cap : Nat) (w : World) (hc : CodeIn w A len cap) :
    Calls Tryd.prog 14 #[.slice A len cap] w fun e w' => e = .returned (.bool true) ∧ Below w.heap.size w w' := by
  have hlc := hc.1
  have hcm := hc.2.1
  unfold maxLen at hcm
  by_cases hbig : 1048576 < len
  · go_enter Tryd.func14, Tryd.ntmps14
    go_wp2_with fail
    go_ret
    exact ⟨rfl, Below.refl _ _⟩
  have hbig' : len ≤ 1048576 := by omega
  clear hbig
  obtain ⟨i0, hi, hz0, hz1, hz2⟩ := info_parts infoIntW
  go_enter Tryd.func14, Tryd.ntmps14
  go_wp2_with fail
  refine (draw_Next A len cap _ hc).mono ?_
  rintro e w1 ⟨v, n, S, v2, m, F, rfl, hn, hm, hS, hF, o1, o2, b1⟩
  clear hc
  have HS : Hid (∀ i, i < n → ∀ j, j < 3 → (S i j).size ≤ maxLen) := Lib.hid fun i _ j _ => by have := hS i j; unfold maxLen; omega
  have HF : Hid (∀ i j, (F i j).size ≤ maxLen) := Lib.hid fun i j => by have := hF i j; unfold maxLen; omega
  have hR1 := Recs.of_own o1
  have hQ1 := Recs.of_own o2
  obtain ⟨A1, cap1, rfl, hnc, hcm1, _⟩ := id hR1
  obtain ⟨A2, cap2, rfl, hnc2, hcm2, _⟩ := id hQ1
  have HR1 := Lib.hid hR1
  have HQ1 := Lib.hid hQ1
  unfold maxLen at hcm1 hcm2
  have CI := Lib.hid fun W hR hQ hB => iNext W w1.heap.size (.slice A1 n cap1) (.slice A2 m cap2) n m S F hR hQ hB HS.out (fun i _ j _ => HF.out i j)
  have CS := Lib.hid fun W hR hQ hB => sNext W w1.heap.size (.slice A1 n cap1) (.slice A2 m cap2) n m S F hR hQ hB HS.out (fun i _ j _ => HF.out i j)
  have CW := Lib.hid fun W hR hB => iWays W w1.heap.size (.slice A1 n cap1) n S hR hB HS.out
  have hxr := wayL_range S n
  have hl5 : (wayL S n).length ≤ 16 := whL_length _ _
  clear hS hF o1 o2 hR1 hQ1
  generalize wayL S n = xs at *
  unfold NxP at CI CS
  cases hok : nxC F m xs with
  | false =>
    have HX : nxI F m xs = -1 := by unfold nxI; rw [hok]; rfl
    rw [hok, HX] at CI CS
    clear hok HX hxr
    go_wp2_with fail
    refine (CI.out _ HR1.out HQ1.out (Nat.le_refl _)).mono ?_
    rintro e w2 ⟨rfl, b2⟩
    have hB2 := below_own b1 b2 b1.size
    have HR2 := Lib.hid (HR1.out.below b2 (Nat.le_refl _))
    have HQ2 := Lib.hid (HQ1.out.below b2 (Nat.le_refl _))
    have hs2 := b2.size
    clear b1 b2 HR1 HQ1
    go_wp2_with fail
    refine (CS.out _ HR2.out HQ2.out hs2).mono ?_
    rintro e w3 ⟨rfl, b3⟩
    have hB3 := below_own hB2 b3 hB2.size
    go_wp2_with (go_at_call 20; refine (alive_any _).mono ?_; rintro e w' ⟨rfl, rfl⟩)
    go_ret
    exact ⟨rfl, hB3⟩
  | true =>
    have hk3 : tokB F m = true ∧ 0 < m ∧ 0 < xs.length := by
      have hk := hok
      unfold nxC at hk
      simp only [Bool.and_eq_true, decide_eq_true_eq] at hk
      exact ⟨hk.1.1, hk.1.2, hk.2⟩
    obtain ⟨htk, hm0, hx0⟩ := hk3
    have HG16 : ∀ k, gG F xs k ≤ 16 := fun k => Nat.le_trans (wst_small _ _ _) hl5
    obtain ⟨best, hbest, eb, hb1, hb2⟩ := nxB_best HG16 hm0
    have HX : nxI F m xs = (best : Int) := by unfold nxI; rw [if_pos hok, eb]
    rw [hok, HX] at CI CS
    have HTk1 : ∀ k, k < m → tokB (fun _ => F k) 1 = true := fun k hk => tokB_good (by omega) fun j hj => show tokAt F k = true from tokB_at htk hk
    have CA := Lib.hid fun k (hk : k < m) j (hj : j < xs.length) W vv (hR : Recs W W.heap.size vv 1 3 (SV fun _ => F k)) => show Calls Tryd.prog 16 #[vv, .int .i64 (xs.getD j 0)] W (TestsP 1 (abS (fun _ => F k) (xs.getD j 0)) W) by
      have h := iAnswered W W.heap.size vv 1 (fun _ => F k) (xs.getD j 0) hR (Nat.le_refl _) (fun i hi j' hj' => HF.out k j')
      rwa [abN_ok (HTk1 k hk) (hxr j hj).1 (hxr j hj).2] at h
    have CE := Lib.hid fun k (hk : k < m) j (hj : j < xs.length) i (hi : i < xs.length) W vv (hR : Recs W W.heap.size vv 1 3 (SV (abS (fun _ => F k) (xs.getD j 0)))) => show Calls Tryd.prog 26 #[vv, .int .i64 (xs.getD i 0)] W (fun e w' => e = .returned (.bool (ansK (F k 0).data.toList (F k 1).data.toList xs j == ansK (F k 0).data.toList (F k 1).data.toList xs i)) ∧ Below W.heap.size W w') by
      have h := iExplains W W.heap.size vv 1 (abS (fun _ => F k) (xs.getD j 0)) (xs.getD i 0) hR (Nat.le_refl _) (fun i' hi' j' hj' => abS_size (fun _ => F k) _ maxLen (by decide) i' j' (HF.out k j'))
      rwa [exp_ans (HTk1 k hk) hxr hi hj] at h
    have HGe := Lib.hid fun k => show gG F xs k = wst (ansK (F k 0).data.toList (F k 1).data.toList xs) xs.length xs.length from rfl
    have HG := Lib.hid HG16
    have Hb1 := Lib.hid hb1
    have Hb2 := Lib.hid hb2
    have HWs := Lib.hid fun K j => wst_small K xs.length j
    have HWn := Lib.hid fun K j => show wst K xs.length (j + 1) = max (wst K xs.length j) (cntK K xs.length (K j)) from rfl
    have HCn := Lib.hid fun K i l => cntK_succ K i l
    have HCl := Lib.hid fun K i l => cntK_le K i l
    clear hok HX hxr HG16 htk eb hb1 hb2 HTk1
    generalize gG F xs = G at *
    go_wp2_with fail
    refine (CI.out _ HR1.out HQ1.out (Nat.le_refl _)).mono ?_
    rintro e w2 ⟨rfl, b2⟩
    have hB2 := below_own b1 b2 b1.size
    have HR2 := Lib.hid (HR1.out.below b2 (Nat.le_refl _))
    have HQ2 := Lib.hid (HQ1.out.below b2 (Nat.le_refl _))
    have hs2 := b2.size
    clear b1 b2 HR1 HQ1
    go_wp2_with fail
    refine (CS.out _ HR2.out HQ2.out hs2).mono ?_
    rintro e w3 ⟨rfl, b3⟩
    have hB3 := below_own hB2 b3 hB2.size
    have hs3 : w1.heap.size ≤ w3.heap.size := by have := b3.size; omega
    have hb3 := hB3.alloc hB3.size (.cells #[] 3)
    have HR3 := Lib.hid ((HR2.out.below b3 hs2).below ((Below.refl w3.heap.size w3).alloc (Nat.le_refl _) (.cells #[] 3)) hs3)
    have HQ3 := Lib.hid ((HQ2.out.below b3 hs2).below ((Below.refl w3.heap.size w3).alloc (Nat.le_refl _) (.cells #[] 3)) hs3)
    have hown3 := owns_new w3 w3.heap.size 3 1 0 #[] (Nat.le_refl _) (by decide) rfl
    have hs33 : w1.heap.size ≤ (w3.alloc (.cells #[] 3)).heap.size := by simp; omega
    clear hB2 b3 HR2 HQ2
    go_wp2_with fail
    refine (CW.out _ HR3.out hs33).mono ?_
    rintro e w4 ⟨v4, rfl, o4, b4⟩
    have hB4 := below_own hb3 b4 hb3.size
    have HQ4 := Lib.hid (HQ3.out.below b4 hs33)
    have hown4 := own_below hown3 b4
    have hB43 : Below w3.heap.size w3 w4 := below_own ((Below.refl w3.heap.size w3).alloc (Nat.le_refl _) (.cells #[] 3)) b4 (by simp)
    have hs4 : w3.heap.size < w4.heap.size := by have := b4.size; simp at this; omega
    obtain ⟨g4, cap', rfl, hnc', hcm', hbg, hgl, hcell, _⟩ := o4.at_ hx0
    have hbg : w3.heap.size < g4 := by simp at hbg; omega
    have HCx : Hid (∀ j, j < xs.length → w4.cell? ⟨g4, j, none⟩ = some (.int .i64 (xs.getD j 0))) := Lib.hid fun j hj => hcell j _ (by rw [List.getElem?_map, List.getElem?_eq_getElem hj, List.getD_eq_getElem?_getD, List.getElem?_eq_getElem hj]; rfl)
    clear b4 HR3 HQ3 o4 hown3 CI CS CW hcell hb3 hB4
    unfold maxLen at hcm'
    obtain ⟨A2', cap2', hv2, _, _, hcell2⟩ := id HQ4.out
    cases hv2
    obtain ⟨bq, oq, rfl, hbq, hcq⟩ := hcell2 hm0
    have HCq := Lib.hid hcq
    clear hcell2 hcq HQ4
    have hxi : (0 : Int) < (xs.length : Int) := by omega
    have hmi : (0 : Int) < (m : Int) := by omega
    have hnc2' := hnc2
    go_wp2_with fail
    go_loopg [9, 11, 12, 13, 14, 15, 16] m (fun g s9 s11 s12 s13 s14 s15 s16 wr => ∃ k : Nat, g + k = m ∧ s11 = .int .i64 k ∧ wr.ownsRow w3.heap.size 3 1 s9 k ((List.range k).map fun j => Value.int .i64 (G j : Nat)) ∧ Below w3.heap.size w3 wr ∧ w4.heap.size ≤ wr.heap.size ∧
      Hid (∀ b o, b < w4.heap.size → b ≠ w3.heap.size → wr.cell? ⟨b, o, none⟩ = w4.cell? ⟨b, o, none⟩) ∧ Hid (∀ b, s9.ownBlock = some b → b = w3.heap.size ∨ w4.heap.size ≤ b))
    case atStart => exact ⟨0, rfl, rfl, hown4, hB43, Nat.le_refl _, Lib.hid fun _ _ _ _ => rfl, Lib.hid fun b hb => .inl (by simp [Value.ownBlock] at hb; exact hb.symm)⟩
    case round =>
      obtain ⟨k, hkg, rfl, hown, hB, hsz, HK, HO⟩ := hrel
      by_cases hlt : k < m
      · obtain ⟨go, hgo⟩ : ∃ x, x = gk := ⟨_, rfl⟩
        obtain ⟨W1, rfl⟩ : ∃ x, x = wr := ⟨_, rfl⟩
        have CAk := Lib.hid fun j (hj : j < xs.length) W vv hR => CA.out k hlt j hj W vv hR
        have CEk := Lib.hid fun j (hj : j < xs.length) i (hi : i < xs.length) W vv hR => CE.out k hlt j hj i hi W vv hR
        have HGk := Lib.hid (HGe.out k)
        have hg16 := HG.out k
        have hki : (k : Int) < (m : Int) := by omega
        have hkd : decide ((k : Int) < (m : Int)) = true := decide_eq_true hki
        have HQk : Hid (∀ W, Below W1.heap.size W1 W → Recs W W.heap.size (.slice (some ⟨bq, oq + k * 3, none⟩) 1 (cap2 - k)) 1 3 (SV fun _ => F k)) := Lib.hid fun W hW => by
          refine ⟨_, _, rfl, by omega, by unfold maxLen; omega, fun _ => ⟨bq, oq + k * 3, rfl, by have := hW.size; omega, fun i hi j hj => ?_⟩⟩
          obtain rfl : i = 0 := by omega
          have h1 := HCq.out k hlt j hj
          have h2 := HK.out bq (oq + k * 3 + j) (by omega) (by omega)
          have h3 := hW.cell (p := ⟨bq, oq + k * 3 + j, none⟩) (by show bq < W1.heap.size; omega)
          rw [Nat.zero_mul, Nat.add_zero, h3, h2, h1]
          rfl
        have HXk : Hid (∀ W, Below W1.heap.size W1 W → ∀ j, j < xs.length → W.cell? ⟨g4, j, none⟩ = some (.int .i64 (xs.getD j 0))) := Lib.hid fun W hW j hj => by
          rw [hW.cell (p := ⟨g4, j, none⟩) (by show g4 < W1.heap.size; omega), HK.out g4 j hgl (by omega)]
          exact HCx.out j hj
        have HOwn := Lib.hid hown
        have HB := Lib.hid hB
        clear hown hB
        generalize ansK (F k 0).data.toList (F k 1).data.toList xs = K at *
        go_wp2_with fail
        go_loopg [12, 13, 14, 15, 16] xs.length (fun g s12 s13 s14 s15 s16 wr => ∃ j y : Nat, g + j = xs.length ∧ s13 = .int .i64 j ∧ s12 = .int .i64 y ∧ Hid (y = wst K xs.length j) ∧ Below W1.heap.size W1 wr)
        case atStart => exact ⟨0, 0, rfl, rfl, rfl, Lib.hid rfl, Below.refl _ _⟩
        case round =>
          obtain ⟨j, y, hjg, rfl, rfl, HY, hB2⟩ := hrel
          have hy16 := HWs.out K j
          rw [← HY.out] at hy16
          by_cases hjl : j < xs.length
          · obtain ⟨go2, hgo2⟩ : ∃ x, x = gk := ⟨_, rfl⟩
            obtain ⟨W2, rfl⟩ : ∃ x, x = wr := ⟨_, rfl⟩
            have e1 := HXk.out W2 hB2 j hjl
            have CAj := Lib.hid fun W vv hR => CAk.out j hjl W vv hR
            have CEj := Lib.hid fun i hi W vv hR => CEk.out j hjl i hi W vv hR
            have HQj := Lib.hid fun W hW => HQk.out W (below_own hB2 hW hB2.size)
            have HXj := Lib.hid fun W hW => HXk.out W (below_own hB2 hW hB2.size)
            have HWj := Lib.hid (HWn.out K j)
            rw [← HY.out] at HWj
            have hji : (j : Int) < (xs.length : Int) := by omega
            have hjd : decide ((j : Int) < (xs.length : Int)) = true := decide_eq_true hji
            have HB2 := Lib.hid hB2
            have hg4 : g4 < W2.heap.size := by have := hB2.size; omega
            have hk1 : IntKind.i64.wrap ((k : Int) + 1) = (k : Int) + 1 := by rw [IntKind.wrap_i64]; omega
            have hkc : (k : Int) + 1 ≤ (cap2 : Int) := by omega
            have hkc2 : (k : Int) < (cap2 : Int) := by omega
            have hkc3 : k < cap2 := by omega
            have hkc4 : k + 1 ≤ cap2 := by omega
            have hcne : ¬ cap2 = k := by omega
            have hkk : (k : Int) ≤ (k : Int) + 1 := by omega
            have hk0 : (0 : Int) ≤ (k : Int) := by omega
            have hk01 : (0 : Int) ≤ (k : Int) + 1 := by omega
            clear hB2
            generalize hwj : xs.getD j 0 = wj at *
            clear hwj
            go_wp2_with fail
            go_region_held3 (fun w' => w'.cell? ⟨g4, j, none⟩ = some (.int .i64 wj)) (go_keep)
              (first | (go_at_call 16; refine (CAj.out _ _ (by first | exact HQj.out _ (Below.refl _ _) | exact HQj.out _ (Below.refl _ _).drew)).mono ?_; rintro e w6 ⟨v6, rfl, o6, q6⟩; have g0 := (q6.cell (p := ⟨g4, j, none⟩) hg4).trans e1))
            have hB6 : Below W2.heap.size W2 w6 := by first | exact q6 | exact below_own (Below.refl _ _).drew q6 (Nat.le_refl _)
            have R6 := Recs.of_own o6
            have HR6 := Lib.hid fun W (hW : Below w6.heap.size w6 W) => (R6.below hW (Nat.le_refl _)).mono (show w6.heap.size ≤ W.heap.size from hW.size)
            have HX6 := Lib.hid fun W (hW : Below w6.heap.size w6 W) => HXj.out W (below_own hB6 hW hB6.size)
            have HB6 := Lib.hid (below_own HB2.out hB6 HB2.out.size)
            clear hB6 R6 o6 q6 g0 HXj HQj HB2 CAj e1 hk1 hkc hkc2 hkc3 hkc4 hkk hk0 hk01 hcne
            go_wp2_with fail
            go_loopg [14, 16] xs.length (fun g s14 s16 wr => ∃ i c : Nat, g + i = xs.length ∧ s16 = .int .i64 i ∧ s14 = .int .i64 c ∧ Hid (c = cntK K i (K j)) ∧ Below w6.heap.size w6 wr)
            case atStart => exact ⟨0, 0, rfl, rfl, rfl, Lib.hid rfl, Below.refl _ _⟩
            case round =>
              obtain ⟨i, c, hig, rfl, rfl, HC, hB7⟩ := hrel
              have hc16 := HCl.out K i (K j)
              rw [← HC.out] at hc16
              by_cases hil : i < xs.length
              · have e2 := HX6.out wr hB7 i hil
                have CEi := Lib.hid (CEj.out i hil wr v6 (HR6.out wr hB7))
                have HS := Lib.hid (HCn.out K i (K j))
                rw [← HC.out] at HS
                have hii : (i : Int) < (xs.length : Int) := by omega
                have hid' : decide ((i : Int) < (xs.length : Int)) = true := decide_eq_true hii
                have HB7 := Lib.hid hB7
                clear hB7
                generalize xs.getD i 0 = wi at *
                by_cases hKK : K j = K i
                · rw [show (K j == K i) = true by rw [hKK]; exact beq_self_eq_true _] at CEi
                  have HSt : Hid (cntK K (i + 1) (K j) = c + 1) := Lib.hid (by rw [HS.out, if_pos hKK.symm])
                  clear hKK HS
                  go_wp2_with fail
                  refine CEi.out.mono ?_
                  rintro e w8 ⟨rfl, b8⟩
                  have hB8 := below_own HB7.out b8 HB7.out.size
                  go_wp2_with fail
                  go_roundg (gk - 1)
                  case measure => omega
                  case rel => exact ⟨i + 1, c + 1, by omega, by go_num, by go_num, Lib.hid HSt.out.symm, hB8⟩
                · rw [show (K j == K i) = false from beq_eq_false_iff_ne.2 hKK] at CEi
                  have HSt : Hid (cntK K (i + 1) (K j) = c) := Lib.hid (by rw [HS.out, if_neg fun e => hKK e.symm]; rfl)
                  clear hKK HS
                  go_wp2_with fail
                  refine CEi.out.mono ?_
                  rintro e w8 ⟨rfl, b8⟩
                  have hB8 := below_own HB7.out b8 HB7.out.size
                  go_wp2_with fail
                  go_roundg (gk - 1)
                  case measure => omega
                  case rel => exact ⟨i + 1, c, by omega, by go_num, rfl, Lib.hid HSt.out.symm, hB8⟩
              · obtain rfl : i = xs.length := by omega
                have HM : Hid (wst K xs.length (j + 1) = max y c) := Lib.hid (by rw [HWj.out, ← HC.out])
                have hB9 := below_own HB6.out hB7 HB6.out.size
                clear hB7
                by_cases hyc : (y : Int) ≤ (c : Int)
                · have HMx := Lib.hid (show max y c = c by omega)
                  go_wp2_with fail
                  go_roundg (go2 - 1)
                  case measure => omega
                  case rel => exact ⟨j + 1, c, by omega, by go_num, by first | rfl | (simp; omega), Lib.hid (by rw [HM.out, HMx.out]), hB9⟩
                · have hyc' : (c : Int) < (y : Int) := by omega
                  have HMx := Lib.hid (show max y c = y by omega)
                  clear hyc
                  go_wp2_with fail
                  go_roundg (go2 - 1)
                  case measure => omega
                  case rel => exact ⟨j + 1, y, by omega, by go_num, by first | rfl | (simp; omega), Lib.hid (by rw [HM.out, HMx.out]), hB9⟩
          · obtain rfl : j = xs.length := by omega
            have hyG : Hid (y = G k) := Lib.hid (by rw [HY.out, HGk.out])
            have hownr := own_below HOwn.out hB2
            have hBr := below_own HB.out hB2 HB.out.size
            have hszr : w4.heap.size ≤ wr.heap.size := by have := hB2.size; omega
            have HKr : Hid (∀ b o, b < w4.heap.size → b ≠ w3.heap.size → wr.cell? ⟨b, o, none⟩ = w4.cell? ⟨b, o, none⟩) := Lib.hid fun b o hb hne => (hB2.cell (p := ⟨b, o, none⟩) (by show b < W1.heap.size; omega)).trans (HK.out b o hb hne)
            clear HY HOwn HB hB2 HQk HXk CAk CEk
            go_wp2_with (at_builtin; refine wpList_append_lies _ rfl _ _ 35 rfl w3.heap.size 3 i0 (.int .i64 0) 1 8 Tryd.underlying35 hi hz0 hz1 hz2 rfl (by decide) _ _ _ rfl (hownr.alloc _) ⟨wr.heap.size, 0, none⟩ 1 1 [.int .i64 y] rfl rfl (cell_one_new _ _ _) (by simp [Value.oneCell']) (by omega) (by unfold maxLen; omega) (by omega) (by have := hBr.size; simp; omega) _ rfl ?_; intro g9 cap9 w9 hown9 hgrow9 hat9 hlt9)
            have hB9 := (hBr.alloc hBr.size (.cells #[.int .i64 y] 3)).grown hgrow9 (by have := hBr.size; simp; omega) (fun b hb => (hownr.lt b hb).1)
            have hsz9 : w4.heap.size ≤ w9.heap.size := by have := hgrow9.size; simp at this; omega
            have HK9 : Hid (∀ b o, b < w4.heap.size → b ≠ w3.heap.size → w9.cell? ⟨b, o, none⟩ = w4.cell? ⟨b, o, none⟩) := Lib.hid fun b o hb hne => (World.grownBy.cell_far hgrow9 ⟨b, o, none⟩ (by simp; omega) (fun e => by rcases HO.out b e.symm with h | h <;> omega)).trans ((World.cell?_alloc_past _ _ _ (show b < wr.heap.size by omega)).trans (HKr.out b o hb hne))
            have HO9 : Hid (∀ b, (Value.slice (some ⟨g9, 0, none⟩) (k + 1) cap9).ownBlock = some b → b = w3.heap.size ∨ w4.heap.size ≤ b) := Lib.hid fun b hb => by
              simp [Value.ownBlock] at hb
              subst hb
              rcases hat9 with h | h
              · exact HO.out _ h
              · right; simp at h; omega
            have HOwn9 := Lib.hid (show w9.ownsRow w3.heap.size 3 1 (.slice (some ⟨g9, 0, none⟩) (k + 1) cap9) (k + 1) ((List.range (k + 1)).map fun j => Value.int .i64 (G j : Nat)) by
              rw [List.range_succ, List.map_append, List.map_singleton, ← hyG.out]; exact hown9)
            clear hownr hBr HKr hown9 hgrow9 hat9 HO HK
            go_wp2_with fail
            go_roundg (go - 1)
            case measure => omega
            case rel => exact ⟨k + 1, by omega, by go_num, HOwn9.out, hB9, hsz9, HK9, HO9⟩
      · obtain rfl : k = m := by omega
        have hBw := below_own hB3 hB hB3.size
        obtain ⟨g9, cap9, rfl, hnc9, hcm9, _, _, hc9, _⟩ := owns_at hown (by omega)
        unfold maxLen at hcm9
        have HC9 : Hid (∀ j, j < k → wr.cell? ⟨g9, j, none⟩ = some (.int .i64 (G j : Nat))) := Lib.hid fun j hj => hc9 j _ (by simp [hj])
        have eb := HC9.out best hbest
        have hbi : (best : Int) < (k : Int) := by omega
        have hgb := HG.out best
        clear hc9 hown hB HK HO
        generalize hGb : G best = gb at *
        have HGb := Lib.hid hGb
        clear hGb
        go_wp2_with fail
        go_loopg [17] k (fun g s17 wr' => ∃ j q : Nat, g + j = k ∧ s17 = .int .i64 j ∧ wr' = wr.drewN q)
        case atStart => exact ⟨0, 0, rfl, rfl, rfl⟩
        case round =>
          obtain ⟨j, q, hjg, rfl, rfl⟩ := hrel
          by_cases hjk : j < k
          · have e1 : wr.cell? ⟨g9, j, none⟩ = _ := HC9.out j hjk
            have h1 := Hb1.out j hjk
            have h2 : j < best → gb < G j := fun h => Hb2.out j h
            have hgj := HG.out j
            have hji : (j : Int) < (k : Int) := by omega
            have hjd : decide ((j : Int) < (k : Int)) = true := decide_eq_true hji
            obtain ⟨a, ha⟩ : ∃ a : Int, ((G j : Nat) : Int) = a := ⟨_, rfl⟩
            obtain ⟨gi, hgi⟩ : ∃ a : Int, ((gb : Nat) : Int) = a := ⟨_, rfl⟩
            rw [ha] at e1
            rw [hgi] at eb
            have l1 : decide (a < gi) = false := decide_eq_false (by omega)
            have l1' : ¬ a < gi := by omega
            by_cases hab : a = gi
            · have l2 : (a == gi) = true := by rw [hab]; exact beq_self_eq_true _
              have l3' : ¬ j < best := by intro h; have := h2 h; omega
              have l3 : decide (j < best) = false := decide_eq_false l3'
              have l4 : decide ((j : Int) < (best : Int)) = false := decide_eq_false (by omega)
              clear h1 h2 hab ha hgi
              go_wp2_with fail
              go_quiet (fail)
              go_wp2_with fail
              go_roundg (gk - 1)
              case measure => omega
              case rel => exact ⟨j + 1, q + nq, by omega, by go_num, by first | rfl | (rw [World.drewN_drewN])⟩
            · have l2 : (a == gi) = false := beq_eq_false_iff_ne.2 hab
              clear h1 h2 hab ha hgi
              go_wp2_with fail
              go_quiet (fail)
              go_wp2_with fail
              go_roundg (gk - 1)
              case measure => omega
              case rel => exact ⟨j + 1, q + nq, by omega, by go_num, by first | rfl | (rw [World.drewN_drewN])⟩
          · obtain rfl : j = k := by omega
            have hxl : 0 < xs.length := hx0
            go_wp2_with fail
            go_ret
            exact ⟨by first | rfl | (simp [hx0]), below_drewN hBw q⟩
end Go.Proofs.YtfhefngpeknhlaaDoor
