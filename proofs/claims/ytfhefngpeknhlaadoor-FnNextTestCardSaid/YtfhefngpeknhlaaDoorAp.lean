/- The walks of ApartBy, of the program (a map's length) and of the reference; its exact law. -/
import Derived.Test.YtfhefngpeknhlaaDoorLots
import Derived.Test.YtfhefngpeknhlaaDoorAnsB
import Derived.Test.YtfhefngpeknhlaaDoorWh
namespace Go.Proofs.YtfhefngpeknhlaaDoor
set_option linter.unusedVariables false
set_option linter.unusedSimpArgs false
open Go.RowKit Go.Maps

theorem hasK_congr {K L : Nat → List UInt8} {k : Nat} (h : ∀ j, j < k → K j = L j) (l : List UInt8) : hasK K k l = hasK L k l := by
  unfold hasK
  rw [Bool.eq_iff_iff, List.any_eq_true, List.any_eq_true]
  constructor
  · rintro ⟨j, hj, e⟩; exact ⟨j, hj, by rw [← h j (List.mem_range.1 hj)]; exact e⟩
  · rintro ⟨j, hj, e⟩; exact ⟨j, hj, by rw [h j (List.mem_range.1 hj)]; exact e⟩
theorem dcK_congr {K L : Nat → List UInt8} {k : Nat} (h : ∀ j, j < k → K j = L j) : dcK K k = dcK L k := by
  induction k with
  | zero => rfl
  | succ k ih =>
    show dcK K k + _ = dcK L k + _
    rw [ih fun j hj => h j (by omega), h k (by omega), hasK_congr (fun j hj => h j (by omega))]
theorem allW_getD : ∀ j, j < 16 → (whL (fun _ => true) 16).getD j 0 = (j : Int) := by decide
theorem allW_len : (whL (fun _ => true) 16).length = 16 := by decide
def apI (S : Nat → Nat → ByteArray) (n : Nat) : Int := if tokB S n = true then (dcK (fun j => keyT S n (j : Int)) 16 : Int) else -1
theorem exp_key {S : Nat → Nat → ByteArray} {n : Nat} (hk : tokB S n = true) (o way : Nat) (hw : way < 16) : expB (abS S o) n way = (keyT S n o == keyT S n way) := by
  have hiff := keyT_iff (S := S) (n := n) (fun i hi => tokB_at hk hi) (o : Int) (way : Int)
  rw [Bool.eq_iff_iff, beq_iff_eq, hiff]
  constructor
  · intro h i hi
    simp only [expB, Bool.and_eq_true, decide_eq_true_eq, List.all_eq_true, List.mem_range] at h
    have h2 := h.2.2 i hi
    have h3 : tkS (S i 0).data.toList (S i 1).data.toList way = tkS (S i 0).data.toList (S i 1).data.toList o := of_decide_eq_true h2
    exact h3.symm
  · intro h
    refine expB_good hk (by omega) (by omega) fun j hj => ?_
    exact decide_eq_true (show tkS (S j 0).data.toList (S j 1).data.toList way = tkS (S j 0).data.toList (S j 1).data.toList o from (h j hj).symm)

theorem apart_cl (way : Int) (w : World) : Calls Tryd.prog 78 #[.int .i64 way] w fun e w' => e = .returned (.bool true) ∧ Below w.heap.size w w' := by
  go_enter Tryd.func78, Tryd.ntmps78
  go_wp2_with fail
  go_ret
  exact ⟨rfl, Below.refl _ _⟩

set_option maxRecDepth 20000 in
set_option maxHeartbeats 2000000 in
theorem iApart (w : World) (B : Nat) (v : Value) (n : Nat) (S : Nat → Nat → ByteArray) (hR : Recs w B v n 3 (SV S)) (hBw : B ≤ w.heap.size) (hS : ∀ i, i < n → ∀ j, j < 3 → (S i j).size ≤ maxLen) :
    Calls Tryd.prog 41 #[v] w fun e w' => e = .returned (.int .i64 (apI S n)) ∧ Below w.heap.size w w' := by
  have HT := Lib.hid (iTestsOk w B v n S hR hBw hS)
  cases hk : tokB S n with
  | false =>
    have H1 := Lib.hid (show apI S n = -1 by simp [apI, hk])
    rw [hk] at HT
    clear hk hS hR
    go_enter Tryd.func41, Tryd.ntmps41
    go_wp2_with fail
    refine HT.out.mono ?_
    rintro e w1 ⟨rfl, b1⟩
    go_wp2_with fail
    go_ret
    exact ⟨by rw [H1.out]; rfl, b1⟩
  | true =>
    rw [hk] at HT
    have H1 : Hid (apI S n = ((dcK (fun j => keyT S n ((whL (fun _ => true) 16).getD j 0)) 16 : Nat) : Int)) := Lib.hid (by
      unfold apI
      rw [if_pos hk, dcK_congr (K := fun j : Nat => keyT S n (j : Int)) (L := fun j => keyT S n ((whL (fun _ => true) 16).getD j 0)) (fun j hj => by show keyT S n (j : Int) = keyT S n _; rw [allW_getD j hj])])
    have hn6 := tokB_len hk
    have CL := Lib.hid fun W vw hRw hX hBW => iLots W W.heap.size v vw n S (whL (fun _ => true) 16) hRw hX hBW hS hk (fun j hj => by rw [allW_len] at hj; rw [allW_getD j hj]; omega) (by rw [allW_len]; exact Nat.le_refl _)
    rw [allW_len] at CL
    have CW := Lib.hid fun W => which_apart W (fun _ => true) W.heap.size (Nat.le_refl _) (fun k _ W' _ => apart_cl k W')
    have HR := Lib.hid hR
    clear hk hS hR
    generalize whL (fun _ => true) 16 = xs at *
    generalize hdd : dcK (fun j => keyT S n (xs.getD j 0)) 16 = dd at *
    have HDd := Lib.hid hdd
    clear hdd
    have hmf : ∀ (fn : Fn) (first cap : Array Value) (w : World), (Instr.makeFunc fn first cap).run Tryd.prog w = .ok (.func fn first cap) w := fun _ _ _ _ => rfl
    go_enter Tryd.func41, Tryd.ntmps41
    go_wp2_with fail
    refine HT.out.mono ?_
    rintro e w1 ⟨rfl, b1⟩
    have hR1 := HR.out.below b1 hBw
    have hs1 := b1.size
    go_wp2_with fail
    refine (CW.out _).mono ?_
    rintro e w2 ⟨v2, rfl, o2, b2⟩
    have hB2 := below_own b1 b2 b1.size
    have hR2 := (hR1.below b2 (by omega)).mono (show B ≤ w2.heap.size by have := b2.size; omega)
    have s2 := IntSl.of_own o2
    clear hR1 o2 b1 b2
    go_wp2_with fail
    refine (CL.out _ v2 hR2 s2 (Nat.le_refl _)).mono ?_
    rintro e w3 ⟨b, D, rfl, hb, hM, hL, b3⟩
    have hB3 := below_own hB2 b3 hB2.size
    have hsz := hL.2.2.2.trans HDd.out
    clear hR2 s2 b3 hB2 hL HDd
    go_wp2_with (first | (at_len; refine wpList_len_own _ rfl _ 76 rfl 9 3 Tryd.underlying76 _ b _ D rfl hM ?_))
    go_ret
    exact ⟨by rw [H1.out]; rfl, hB3⟩

set_option maxRecDepth 20000 in
set_option maxHeartbeats 4000000 in
theorem sApart (w : World) (B : Nat) (v : Value) (n : Nat) (S : Nat → Nat → ByteArray) (hR : Recs w B v n 3 (SV S)) (hBw : B ≤ w.heap.size) (hS : ∀ i, i < n → ∀ j, j < 3 → (S i j).size ≤ maxLen) :
    Calls Tryd.prog 42 #[v] w fun e w' => e = .returned (.int .i64 (apI S n)) ∧ Below w.heap.size w w' := by
  have HT := Lib.hid (sTestsOk w B v n S hR hBw hS)
  cases hk : tokB S n with
  | false =>
    have H1 := Lib.hid (show apI S n = -1 by simp [apI, hk])
    rw [hk] at HT
    clear hk hS hR
    go_enter Tryd.func42, Tryd.ntmps42
    go_wp2_with fail
    refine HT.out.mono ?_
    rintro e w1 ⟨rfl, b1⟩
    go_wp2_with fail
    go_ret
    exact ⟨by rw [H1.out]; rfl, b1⟩
  | true =>
    rw [hk] at HT
    have H1 : Hid (apI S n = ((dcK (fun j => keyT S n (j : Int)) 16 : Nat) : Int)) := Lib.hid (by unfold apI; rw [if_pos hk])
    have CA := Lib.hid fun (o : Nat) (ho : o < 16) W hRw hBW => show Calls Tryd.prog 18 #[v, .int .i64 (o : Int)] W (TestsR n (abS S o) W) by
      have h := sAnswered W B v n S (o : Int) hRw hBW hS
      rwa [show abN S n (o : Int) = n from if_pos ⟨hk, by omega, by omega⟩] at h
    have CE := Lib.hid fun (o way : Nat) (hw : way < 16) W vv hRw => show Calls Tryd.prog 66 #[vv, .int .i64 (way : Int)] W (fun e w' => e = .returned (.bool (keyT S n o == keyT S n way)) ∧ Below W.heap.size W w') by
      have h := sExplains W W.heap.size vv n (abS S o) (way : Int) hRw (Nat.le_refl _) (fun i hi j hj => by
        have h9 : 9 ≤ maxLen := by decide
        exact abS_size S o maxLen h9 i j (hS i hi j hj))
      rwa [exp_key hk o way hw] at h
    have HR := Lib.hid hR
    clear hk hS hR
    have HK := Lib.hid fun (k : Nat) => show hasK (fun j => keyT S n (j : Int)) (k + 1) = fun l => (hasK (fun j => keyT S n (j : Int)) k l || keyT S n k == l) from funext fun l => hasK_succ _ k l
    have HD := Lib.hid fun (k : Nat) => show dcK (fun j => keyT S n (j : Int)) (k + 1) = dcK (fun j => keyT S n (j : Int)) k + (if hasK (fun j => keyT S n (j : Int)) k (keyT S n k) = true then 0 else 1) from rfl
    have HZ := Lib.hid fun (l : List UInt8) => show hasK (fun j => keyT S n (j : Int)) 0 l = false from rfl
    have HLe := Lib.hid fun k => dcK_le (fun j => keyT S n (j : Int)) k
    have HD0 := Lib.hid (show dcK (fun j => keyT S n (j : Int)) 0 = 0 from rfl)
    generalize hasK (fun j => keyT S n (j : Int)) = has at *
    generalize dcK (fun j => keyT S n (j : Int)) = dc at *
    go_enter Tryd.func42, Tryd.ntmps42
    go_wp2_with fail
    refine HT.out.mono ?_
    rintro e w1 ⟨rfl, b1⟩
    go_wp2_with fail
    go_loopg [3, 4, 5, 6] 16 (fun g s3 s4 s5 s6 wr => ∃ way y : Nat, g + way = 16 ∧ s4 = .int .i64 way ∧ s3 = .int .i64 y ∧ Hid (y = dc way) ∧ Below w.heap.size w wr)
    case atStart => exact ⟨0, 0, rfl, rfl, rfl, Lib.hid HD0.out.symm, b1⟩
    case round =>
      obtain ⟨way, y, hway, rfl, rfl, HY, hB⟩ := hrel
      by_cases hlt : way < 16
      · obtain ⟨go, hgo⟩ : ∃ x, x = gk := ⟨_, rfl⟩
        obtain ⟨W1, rfl⟩ : ∃ x, x = wr := ⟨_, rfl⟩
        have hwi : (way : Int) < 16 := by omega
        have hwd : decide ((way : Int) < 16) = true := decide_eq_true hwi
        have hy := HLe.out way
        rw [← HY.out] at hy
        go_wp2_with fail
        go_loopg [5, 6] way (fun g s5 s6 wr => ∃ o : Nat, ∃ f : Int, g + o = way ∧ s6 = .int .i64 o ∧ s5 = .int .i64 f ∧ Hid (f = if has o (keyT S n way) = true then 0 else 1) ∧ Below w.heap.size w wr)
        case atStart => exact ⟨0, 1, rfl, rfl, rfl, Lib.hid (by rw [HZ.out]; rfl), hB⟩
        case round =>
          obtain ⟨o, f, ho, rfl, rfl, HFl, hB2⟩ := hrel
          by_cases hlo : o < way
          · have hRr := HR.out.below hB2 hBw
            have CAo := Lib.hid (CA.out o (by omega) wr hRr (by have := hB2.size; omega))
            have CEo := Lib.hid fun W vv hRw => CE.out o way hlt W vv hRw
            have hoi : (o : Int) < (way : Int) := by omega
            have HKo := Lib.hid (congrFun (HK.out o) (keyT S n way))
            have HB := Lib.hid hB2
            clear hRr hB2
            generalize (keyT S n o == keyT S n way) = q at *
            generalize keyT S n way = kw at *
            cases q with
            | true =>
              go_wp2_with fail
              refine CAo.out.mono ?_
              rintro e w2 ⟨v2, rfl, o2, b2⟩
              have hB3 := below_own HB.out b2 HB.out.size
              go_wp2_with fail
              refine (CEo.out _ v2 (Recs.of_own (Own.of_row o2))).mono ?_
              rintro e w3 ⟨rfl, b3⟩
              have hB4 := below_own hB3 b3 hB3.size
              go_wp2_with fail
              go_roundg (gk - 1)
              case measure => omega
              case rel => exact ⟨o + 1, 0, by omega, by go_num, rfl, Lib.hid (by rw [HKo.out]; simp), hB4⟩
            | false =>
              go_wp2_with fail
              refine CAo.out.mono ?_
              rintro e w2 ⟨v2, rfl, o2, b2⟩
              have hB3 := below_own HB.out b2 HB.out.size
              go_wp2_with fail
              refine (CEo.out _ v2 (Recs.of_own (Own.of_row o2))).mono ?_
              rintro e w3 ⟨rfl, b3⟩
              have hB4 := below_own hB3 b3 hB3.size
              go_wp2_with fail
              go_roundg (gk - 1)
              case measure => omega
              case rel => exact ⟨o + 1, f, by omega, by go_num, rfl, Lib.hid (by rw [HKo.out, Bool.or_false]; exact HFl.out), hB4⟩
          · obtain rfl : o = way := by omega
            have HDo := Lib.hid (HD.out o)
            have hf := HFl.out
            generalize hq : has o (keyT S n o) = q at *
            rw [← HY.out] at HDo
            have HB := Lib.hid hB2
            clear hB2 hq HFl
            cases q with
            | true =>
              obtain rfl : f = 0 := by rw [hf]; rfl
              clear hf
              go_wp2_with fail
              go_roundg (go - 1)
              case measure => omega
              case rel => exact ⟨o + 1, y, by omega, by go_num, by first | rfl | (simp; done) | go_num, Lib.hid (by rw [HDo.out]; simp), HB.out⟩
            | false =>
              obtain rfl : f = 1 := by rw [hf]; rfl
              clear hf
              go_wp2_with fail
              go_roundg (go - 1)
              case measure => omega
              case rel => exact ⟨o + 1, y + 1, by omega, by go_num, by first | go_num | simp, Lib.hid (by rw [HDo.out]; simp), HB.out⟩
      · obtain rfl : way = 16 := by omega
        go_wp2_with fail
        go_ret
        exact ⟨by rw [H1.out, ← HY.out]; rfl, hB⟩
set_option maxRecDepth 20000 in
set_option maxHeartbeats 2000000 in
theorem law_ExactApartBy (A : Option Addr) (len cap : Nat) (w : World) (hin : RecsIn Tryd.prog w A len cap 3 StrField) :
    Calls Tryd.prog 9 #[.slice A len cap] w fun e w' => e = .returned (.bool true) ∧ Below w.heap.size w w' := by
  obtain ⟨S, hR, hS⟩ := tests_in hin
  have HS := Lib.hid hS
  have CI := Lib.hid fun W B v hRw hBW => iApart W B v len S hRw hBW hS
  have CS := Lib.hid fun W B v hRw hBW => sApart W B v len S hRw hBW hS
  clear hin hS
  generalize apI S len = x at *
  go_enter Tryd.func9, Tryd.ntmps9
  go_wp2_with fail
  refine (szTestS_any _ _ _ len S _ hR (Nat.le_refl _) HS.out (by omega) (by omega)).mono ?_
  rintro e w0 ⟨r, rfl, hr0, hr1, hr2, b0⟩
  by_cases hbig : r < 0
  · go_wp2_with fail
    go_ret
    exact ⟨rfl, b0⟩
  have hpos : 0 ≤ r := by omega
  have hs : len ≤ 1048576 := hr2 hpos
  clear hbig hr2
  have hR0 := hR.below b0 (Nat.le_refl _)
  go_wp2_with fail
  refine (toTestS_any _ _ _ _ S hR0 b0.size hs).mono ?_
  rintro e w1 ⟨v1, rfl, o1, b1⟩
  have hB1 := below_own b0 b1 b0.size
  go_wp2_with fail
  refine (CS.out _ _ v1 (Recs.of_own o1) (Nat.le_refl _)).mono ?_
  rintro e w2 ⟨rfl, b2⟩
  have hB2 := below_own hB1 b2 hB1.size
  have hR2 := hR.below hB2 (Nat.le_refl _)
  have hs2 := hB2.size
  clear o1 b1 b2 b0 hB1 hR0
  go_wp2_with fail
  refine (toTestS_any _ _ _ _ S hR2 (by omega) hs).mono ?_
  rintro e w3 ⟨v3, rfl, o3, b3⟩
  have hB3 := below_own hB2 b3 hs2
  go_wp2_with fail
  refine (CI.out _ _ v3 (Recs.of_own o3) (Nat.le_refl _)).mono ?_
  rintro e w4 ⟨rfl, b4⟩
  have hB4 := below_own hB3 b4 hB3.size
  have s4 := (Recs.of_own o3).below b4 (Nat.le_refl _)
  have hR4 := hR.below hB4 (Nat.le_refl _)
  have hs4 := hB4.size
  have hs34 := b4.size
  clear hR hR2 o3 b3 b4
  go_wp2_with fail
  refine (toTestS_any _ _ _ _ S hR4 (by omega) hs).mono ?_
  rintro e w5 ⟨v5, rfl, o5, b5⟩
  have hB5 := below_own hB4 b5 hs4
  have s5 := s4.below b5 (by omega)
  go_wp2_with fail
  refine (eqTestS_t _ w5.heap.size _ _ len S (s5.mono (by have := b5.size; omega)) (Recs.of_own o5) (Nat.le_refl _)).mono ?_
  rintro e w6 ⟨rfl, b6⟩
  go_wp2_with fail
  go_ret
  exact ⟨rfl, below_own hB5 b6 hB5.size⟩
end Go.Proofs.YtfhefngpeknhlaaDoor
