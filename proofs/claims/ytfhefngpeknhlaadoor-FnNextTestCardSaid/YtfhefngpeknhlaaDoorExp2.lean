/- The walks of Explains, of the program and of the reference; its exact law. -/
import Derived.Test.YtfhefngpeknhlaaDoorExp
import Derived.Test.YtfhefngpeknhlaaDoorTestS
namespace Go.Proofs.YtfhefngpeknhlaaDoor
set_option linter.unusedVariables false
set_option linter.unusedSimpArgs false
open Go.RowKit

set_option maxRecDepth 20000 in
set_option maxHeartbeats 2000000 in
theorem idxExp (w : World) (B : Nat) (v : Value) (n : Nat) (S : Nat → Nat → ByteArray) (bw : Nat) (way : Int) (hR : Recs w B v n 3 (SV S)) (hBw : B ≤ w.heap.size) (hS : ∀ i, i < n → ∀ j, j < 3 → (S i j).size ≤ maxLen)
    (hk : tokB S n = true) (h0 : 0 ≤ way) (h1 : way ≤ 15) (hb : bw < w.heap.size) (hc : w.cell? ⟨bw, 0, none⟩ = some (.int .i64 way)) :
    Calls Tryd.prog 110 #[v, .func (.func 102) #[] #[.pointer (some ⟨bw, 0, none⟩)]] w fun e w' => e = .returned (.int .i64 (idxP (fun i => !expAt S way i) n)) ∧ Below w.heap.size w w' := by
  obtain ⟨A, cap, rfl, hnc, hcm, hcell⟩ := hR
  unfold maxLen at hcm
  have Hc := Lib.hid hcell
  have HCl := Lib.hid fun k (hlt : k < n) (W : World) hcw => exp_cl (S k 0) (S k 1) (S k 2) bw way (hS k hlt 0 (by omega)) (hS k hlt 1 (by omega)) (tokB_at hk hlt) h0 h1 W hcw
  have HCw := Lib.hid hc
  clear hcell hS hk hc
  go_enter Tryd.func110, Tryd.ntmps110
  go_wp2_with fail
  go_loopg [5, 8] n (fun g s5 s8 wr => ∃ k : Nat, g + k = n ∧ s8 = .int .i64 k ∧ Hid (∀ j, j < k → (!expAt S way j) = false) ∧ Below w.heap.size w wr)
  case atStart => exact ⟨0, rfl, rfl, Lib.hid fun j hj => by omega, Below.refl _ _⟩
  case round =>
    obtain ⟨k, hk, rfl, Hok, hB⟩ := hrel
    by_cases hlt : k < n
    · obtain ⟨b, o, rfl, hb', hc⟩ := Hc.out (by omega)
      have hbw : b < w.heap.size := by omega
      have e0 := (hB.cell (p := ⟨b, o + k * 3, none⟩) hbw).trans (hc k hlt 0 (by omega))
      have e1 := (hB.cell (p := ⟨b, o + k * 3 + 1, none⟩) hbw).trans (hc k hlt 1 (by omega))
      have e2 := (hB.cell (p := ⟨b, o + k * 3 + 2, none⟩) hbw).trans (hc k hlt 2 (by omega))
      simp only [SV] at e0 e1 e2
      have HN := Lib.hid fun h => idxP_here (p := fun i => !expAt S way i) hlt h Hok.out
      have HT := Lib.hid (show expAt S way k = decide (tkS (S k 0).data.toList (S k 1).data.toList way = S k 2) from rfl)
      clear hc
      go_wp2_with fail
      refine (HCl.out k hlt _ ((hB.cell (p := ⟨bw, 0, none⟩) hb).trans HCw.out)).mono ?_
      rintro e w1 ⟨rfl, b1⟩
      rw [← HT.out]
      have hB1 := below_own hB b1 hB.size
      clear hB b1 e0 e1 e2 HT
      cases ht : expAt S way k with
      | true =>
        have HK := Lib.hid ht
        clear ht
        go_wp2_with fail
        go_roundg (gk - 1)
        case measure => omega
        case rel => exact ⟨k + 1, by omega, by go_num, Lib.hid fun j hj => by
          by_cases e : j = k
          · subst e; rw [HK.out]; rfl
          · exact Hok.out j (by omega), hB1⟩
      | false =>
        have HF := Lib.hid (HN.out (by simp [ht]))
        clear ht
        go_wp2_with fail
        go_ret
        exact ⟨by rw [HF.out]; rfl, hB1⟩
    · obtain rfl : k = n := by omega
      have HF := Lib.hid (idxP_none Hok.out)
      go_wp2
      go_ret
      exact ⟨by rw [HF.out]; rfl, hB⟩

set_option maxRecDepth 20000 in
set_option maxHeartbeats 2000000 in
theorem contExp (w : World) (B : Nat) (v : Value) (n : Nat) (S : Nat → Nat → ByteArray) (bw : Nat) (way : Int) (hR : Recs w B v n 3 (SV S)) (hBw : B ≤ w.heap.size) (hS : ∀ i, i < n → ∀ j, j < 3 → (S i j).size ≤ maxLen)
    (hk : tokB S n = true) (h0 : 0 ≤ way) (h1 : way ≤ 15) (hb : bw < w.heap.size) (hc : w.cell? ⟨bw, 0, none⟩ = some (.int .i64 way)) :
    Calls Tryd.prog 85 #[v, .func (.func 102) #[] #[.pointer (some ⟨bw, 0, none⟩)]] w fun e w' => e = .returned (.bool ((List.range n).any fun i => !expAt S way i)) ∧ Below w.heap.size w w' := by
  have HI := Lib.hid (idxExp w B v n S bw way hR hBw hS hk h0 h1 hb hc)
  have HA := Lib.hid (idxP_any (fun i => !expAt S way i) n)
  have hr := idxP_range (fun i => !expAt S way i) n
  obtain ⟨hr0, hr1⟩ := hr
  clear hR hS hc hk
  generalize idxP (fun i => !expAt S way i) n = x at *
  go_enter Tryd.func85, Tryd.ntmps85
  go_wp2_with fail
  refine HI.out.mono ?_
  rintro e w1 ⟨rfl, b1⟩
  go_wp2_with fail
  go_ret
  exact ⟨by rw [← HA.out]; rfl, b1⟩

theorem Recs.alloc' {w : World} {B n k : Nat} {v : Value} {V : Nat → Nat → Value} (h : Recs w B v n k V) (hB : B ≤ w.heap.size) (o : Obj) : Recs (w.alloc o) B v n k V :=
  h.keep fun b off hb => World.cell?_alloc_past _ _ _ (by omega)
set_option maxRecDepth 20000 in
set_option maxHeartbeats 2000000 in
theorem explains_any (w : World) (B : Nat) (v : Value) (n : Nat) (S : Nat → Nat → ByteArray) (way : Int) (hR : Recs w B v n 3 (SV S)) (hBw : B ≤ w.heap.size) (hS : ∀ i, i < n → ∀ j, j < 3 → (S i j).size ≤ maxLen)
    (hk : tokB S n = true) (h0 : 0 ≤ way) (h1 : way ≤ 15) :
    Calls Tryd.prog 67 #[v, .int .i64 way] w fun e w' => e = .returned (.bool ((List.range n).all (expAt S way))) ∧ Below w.heap.size w w' := by
  have hb1 := (Below.refl w.heap.size w).alloc (Nat.le_refl _) (.cells #[.int .i64 way] 3)
  have HC := Lib.hid (contExp (w.alloc (.cells #[.int .i64 way] 3)) B v n S w.heap.size way (hR.alloc' hBw _) (by simp; omega) hS hk h0 h1 (by simp) (by rw [World.cell?_alloc_mark]; rfl))
  have HA := Lib.hid (show (List.range n).all (expAt S way) = !((List.range n).any fun i => !expAt S way i) from List.all_eq_not_any_not)
  have hmf : ∀ (fn : Fn) (first cap : Array Value) (w : World), (Instr.makeFunc fn first cap).run Tryd.prog w = .ok (.func fn first cap) w := fun _ _ _ _ => rfl
  clear hR hS hk
  generalize (List.range n).any (fun i => !expAt S way i) = x at *
  go_enter Tryd.func67, Tryd.ntmps67
  go_wp2_with fail
  refine HC.out.mono ?_
  rintro e w1 ⟨rfl, b1⟩
  have hB2 := below_own hb1 b1 hb1.size
  go_wp2_with fail
  go_ret
  exact ⟨by rw [HA.out]; rfl, hB2⟩

set_option maxRecDepth 20000 in
set_option maxHeartbeats 2000000 in
theorem iExplains (w : World) (B : Nat) (v : Value) (n : Nat) (S : Nat → Nat → ByteArray) (way : Int) (hR : Recs w B v n 3 (SV S)) (hBw : B ≤ w.heap.size) (hS : ∀ i, i < n → ∀ j, j < 3 → (S i j).size ≤ maxLen) :
    Calls Tryd.prog 26 #[v, .int .i64 way] w fun e w' => e = .returned (.bool (expB S n way)) ∧ Below w.heap.size w w' := by
  have HT := Lib.hid (iTestsOk w B v n S hR hBw hS)
  cases hk : tokB S n with
  | false =>
    have H1 := Lib.hid (show expB S n way = false by simp [expB, hk])
    rw [hk] at HT
    clear hk hS hR
    go_enter Tryd.func26, Tryd.ntmps26
    go_wp2_with fail
    refine HT.out.mono ?_
    rintro e w1 ⟨rfl, b1⟩
    go_wp2_with fail
    go_ret
    exact ⟨by rw [H1.out]; rfl, b1⟩
  | true =>
    rw [hk] at HT
    by_cases hw : 0 ≤ way ∧ way ≤ 15
    · have H1 := Lib.hid (show expB S n way = (List.range n).all (expAt S way) by simp [expB, hk, hw])
      obtain ⟨h0, h1⟩ := hw
      have HE := Lib.hid fun W hRw hBW => explains_any W B v n S way hRw hBW hS hk h0 h1
      have HR := Lib.hid hR
      clear hk hS hR
      generalize (List.range n).all (expAt S way) = x at *
      go_enter Tryd.func26, Tryd.ntmps26
      go_wp2_with fail
      refine HT.out.mono ?_
      rintro e w1 ⟨rfl, b1⟩
      have hR1 := HR.out.below b1 hBw
      go_wp2_with fail
      refine (isWay_t _ _ h0 h1).mono ?_
      rintro e w2 ⟨rfl, rfl⟩
      go_wp2_with fail
      refine (HE.out _ hR1 (by have := b1.size; omega)).mono ?_
      rintro e w2 ⟨rfl, b2⟩
      have hB2 := below_own b1 b2 b1.size
      go_wp2_with fail
      go_ret
      exact ⟨by rw [H1.out]; rfl, hB2⟩
    · have H1 := Lib.hid (show expB S n way = false by simp [expB, hw])
      have hw' : way < 0 ∨ 15 < way := by omega
      clear hk hS hR hw
      go_enter Tryd.func26, Tryd.ntmps26
      go_wp2_with fail
      refine HT.out.mono ?_
      rintro e w1 ⟨rfl, b1⟩
      go_wp2_with fail
      refine (isWay_f _ _ hw').mono ?_
      rintro e w2 ⟨rfl, rfl⟩
      go_wp2_with fail
      go_ret
      exact ⟨by rw [H1.out]; rfl, b1⟩

theorem expB_bad {S : Nat → Nat → ByteArray} {n k : Nat} {way : Int} (hk : k < n) (h : expAt S way k = false) : expB S n way = false := by
  cases e : expB S n way with
  | false => rfl
  | true =>
    simp only [expB, Bool.and_eq_true, List.all_eq_true, List.mem_range] at e
    rw [e.2.2 k hk] at h
    exact h
theorem expB_good {S : Nat → Nat → ByteArray} {n : Nat} {way : Int} (hk : tokB S n = true) (h0 : 0 ≤ way) (h1 : way ≤ 15) (h : ∀ j, j < n → expAt S way j = true) : expB S n way = true := by
  simp only [expB, Bool.and_eq_true, decide_eq_true_eq, List.all_eq_true, List.mem_range]
  exact ⟨hk, ⟨h0, h1⟩, h⟩

set_option maxRecDepth 20000 in
set_option maxHeartbeats 4000000 in
theorem sExplains (w : World) (B : Nat) (v : Value) (n : Nat) (S : Nat → Nat → ByteArray) (way : Int) (hR : Recs w B v n 3 (SV S)) (hBw : B ≤ w.heap.size) (hS : ∀ i, i < n → ∀ j, j < 3 → (S i j).size ≤ maxLen) :
    Calls Tryd.prog 66 #[v, .int .i64 way] w fun e w' => e = .returned (.bool (expB S n way)) ∧ Below w.heap.size w w' := by
  have HT := Lib.hid (sTestsOk w B v n S hR hBw hS)
  cases hk : tokB S n with
  | false =>
    have H1 := Lib.hid (show expB S n way = false by simp [expB, hk])
    rw [hk] at HT
    clear hk hS hR
    go_enter Tryd.func66, Tryd.ntmps66
    go_wp2_with fail
    refine HT.out.mono ?_
    rintro e w1 ⟨rfl, b1⟩
    go_wp2_with fail
    go_ret
    exact ⟨by rw [H1.out]; rfl, b1⟩
  | true =>
    rw [hk] at HT
    by_cases hw : 0 ≤ way ∧ way ≤ 15
    · obtain ⟨h0, h1⟩ := hw
      have HTk := Lib.hid fun k (hlt : k < n) W => sTakenBy (S k 0) (S k 1) way (hS k hlt 0 (by omega)) (hS k hlt 1 (by omega)) W
      have HPk := Lib.hid fun k (hlt : k < n) => show pkS (S k 0).data.toList (S k 1).data.toList way = tkS (S k 0).data.toList (S k 1).data.toList way by
        have h2 := tokB_at hk hlt
        have h3 : takB (S k 0).data.toList (S k 1).data.toList = true := h2
        unfold pkS
        rw [if_pos (by simp [pairB, h3, h0, h1])]
      have HG := Lib.hid fun h => expB_good (S := S) (n := n) (way := way) hk h0 h1 h
      obtain ⟨A, cap, rfl, hnc, hcm, hcell⟩ := hR
      unfold maxLen at hcm
      have Hc := Lib.hid hcell
      clear hk hS hcell
      go_enter Tryd.func66, Tryd.ntmps66
      go_wp2_with fail
      refine HT.out.mono ?_
      rintro e w1 ⟨rfl, b1⟩
      go_wp2_with (first | (go_at_call 58; ((with_reducible refine (sin_t _ _ _ _ ?_ ?_).mono ?_)); (omega); (omega); rintro e w' ⟨rfl, rfl⟩))
      go_loopg [5, 6, 7] n (fun g s5 s6 s7 wr => ∃ k : Nat, g + k = n ∧ s5 = .int .i64 k ∧ Hid (∀ j, j < k → expAt S way j = true) ∧ Below w.heap.size w wr)
      case atStart => exact ⟨0, rfl, rfl, Lib.hid fun j hj => by omega, b1⟩
      case round =>
        obtain ⟨k, hk, rfl, Hok, hB⟩ := hrel
        by_cases hlt : k < n
        · obtain ⟨b, o, rfl, hb, hc⟩ := Hc.out (by omega)
          have hbw : b < w.heap.size := by omega
          have e0 := (hB.cell (p := ⟨b, o + k * 3, none⟩) hbw).trans (hc k hlt 0 (by omega))
          have e1 := (hB.cell (p := ⟨b, o + k * 3 + 1, none⟩) hbw).trans (hc k hlt 1 (by omega))
          have e2 := (hB.cell (p := ⟨b, o + k * 3 + 2, none⟩) hbw).trans (hc k hlt 2 (by omega))
          simp only [SV] at e0 e1 e2
          have HK := Lib.hid (HTk.out k hlt)
          rw [HPk.out k hlt] at HK
          have HX := Lib.hid (show expAt S way k = decide (tkS (S k 0).data.toList (S k 1).data.toList way = S k 2) from rfl)
          have HBad := Lib.hid (expB_bad (S := S) (way := way) hlt)
          clear hc
          have i1 : (k : Int) < (n : Int) := by omega
          have w1' : b < wr.heap.size := by have := hB.size; omega
          have HB := Lib.hid hB
          clear hB
          generalize tkS (S k 0).data.toList (S k 1).data.toList way = x at *
          generalize pairB (S k 0).data.toList (S k 1).data.toList way = y at *
          go_wp2_with fail
          go_region_held3 (fun w' => w'.cell? ⟨b, o + k * 3, none⟩ = some (.string (S k 0)) ∧ w'.cell? ⟨b, o + k * 3 + 1, none⟩ = some (.string (S k 1)) ∧ w'.cell? ⟨b, o + k * 3 + 2, none⟩ = some (.string (S k 2)))
            (go_keep)
            (first | (go_at_call 59; refine (HK.out _).mono ?_; rintro e w2 ⟨rfl, q2⟩; have g0 := (q2.cell (p := ⟨b, o + k * 3, none⟩) w1').trans e0; have g1 := (q2.cell (p := ⟨b, o + k * 3 + 1, none⟩) w1').trans e1; have g2 := (q2.cell (p := ⟨b, o + k * 3 + 2, none⟩) w1').trans e2))
          have HB2 : Hid (Below w.heap.size w w2) := Lib.hid (by first | exact below_own HB.out q2 HB.out.size | exact below_own HB.out.drew q2 HB.out.size)
          by_cases hx : x = S k 2
          · have HGk : Hid (expAt S way k = true) := Lib.hid (by rw [HX.out]; simp [hx])
            have heq : (x.toList != (S k 2).toList) = false := by rw [hx]; simp
            rw [hx]
            clear hx
            go_wp2_with fail
            go_roundg (gk - 1)
            case measure => omega
            case rel => exact ⟨k + 1, by omega, by go_num, Lib.hid fun j hj => by
              by_cases e : j = k
              · subst e; exact HGk.out
              · exact Hok.out j (by omega), HB2.out⟩
          · have HF := Lib.hid (HBad.out (by rw [HX.out]; simp [hx]))
            have heq := strs_ne hx
            have heq2 : (x.toList != (S k 2).toList) = true := by simp only [bne, heq, Bool.not_false]
            clear hx
            go_wp2_with fail
            go_ret
            exact ⟨by rw [HF.out]; rfl, HB2.out⟩
        · obtain rfl : k = n := by omega
          have HF := Lib.hid (HG.out Hok.out)
          go_wp2_with fail
          go_ret
          exact ⟨by rw [HF.out]; rfl, hB⟩
    · have H1 := Lib.hid (show expB S n way = false by simp [expB, hw])
      have hw' : way < 0 ∨ 15 < way := by omega
      clear hk hS hR hw
      go_enter Tryd.func66, Tryd.ntmps66
      go_wp2_with fail
      refine HT.out.mono ?_
      rintro e w1 ⟨rfl, b1⟩
      go_wp2_with (first | (go_at_call 58; ((with_reducible refine (sin_f _ _ _ _ ?_).mono ?_)); (omega); rintro e w' ⟨rfl, rfl⟩))
      go_ret
      exact ⟨by rw [H1.out]; rfl, b1⟩

end Go.Proofs.YtfhefngpeknhlaaDoor
