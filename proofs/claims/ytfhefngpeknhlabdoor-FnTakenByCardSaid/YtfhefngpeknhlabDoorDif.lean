/- The walks of the reference's TakenOf, WrongTaken, LeftOf, DifferenceOf. -/
import Derived.Test.YtfhefngpeknhlabDoorDfp
import Derived.Test.YtfhefngpeknhlabDoorTkw
namespace Go.Proofs.YtfhefngpeknhlabDoor
set_option linter.unusedVariables false
set_option linter.unusedSimpArgs false
open Go.RowKit

theorem cells_at (w : World) (cs : Array Value) (xs : List Value) (t : TypeId) (B : Nat) (hB : B = w.heap.size) (h : cs.toList = xs) : ∀ j u, xs[j]? = some u → (w.alloc (.cells cs t)).cell? ((⟨B, 0, none⟩ : Addr).add j) = some u := by
  intro j u hj
  subst h
  subst hB
  rw [Go.WideShapes.add_plain, cell_of_row _ _ _ cs t (0, 0) (heap_alloc_new w _)]
  simpa using hj
theorem infoCol : (Tryd.prog.info? 77).map (fun i => (i.zero, i.size, i.bytes)) = some (some (.agg #[.int .i64 0, .int .i64 0, .int .i64 0, .int .i64 0, .int .i64 0]), 5, 40) := by kernel_rfl
set_option maxRecDepth 20000 in
set_option maxHeartbeats 2000000 in
theorem l2Digits_t (a b c d e0 : Int) (w : World) (ha : 0 ≤ a ∧ a ≤ 9) (hb : 0 ≤ b ∧ b ≤ 9) (hc : 0 ≤ c ∧ c ≤ 1) (hd : 0 ≤ d ∧ d ≤ 9) (he : 0 ≤ e0 ∧ e0 ≤ 1) :
    Calls Tryd.prog 87 #[.agg #[.int .i64 a, .int .i64 b, .int .i64 c, .int .i64 d, .int .i64 e0]] w fun e w' => e = .returned (.bool true) ∧ Below w.heap.size w w' := by
  obtain ⟨a0, a1⟩ := ha
  obtain ⟨b0, b1⟩ := hb
  obtain ⟨c0, c1⟩ := hc
  obtain ⟨d0, d1⟩ := hd
  obtain ⟨f0, f1⟩ := he
  go_enter Tryd.func87, Tryd.ntmps87
  go_wp2_with (first | (go_at_call 40; ((with_reducible refine (sin_t _ _ _ _ ?_ ?_).mono ?_)); (omega); (omega); rintro e w' ⟨rfl, rfl⟩))
  go_ret
  exact ⟨rfl, (Below.refl _ _).alloc (Nat.le_refl _) _⟩

/-- A right transcript of taking away. -/
def takRight (F : Nat → Nat → Int) (n : Nat) : Prop := n ≤ 9 ∧ (∀ i, i < n → colOk F i) ∧ (0 < n → F 0 2 = 0) ∧ (∀ i, i + 1 < n → F (i + 1) 2 = F i 4) ∧ (0 < n → F (n - 1) 4 = 0)
/-- What is carried before a column. -/
def cf (F : Nat → Nat → Int) : Nat → Int
  | 0 => 0
  | i + 1 => F i 4
theorem takRight_in {F : Nat → Nat → Int} {n i : Nat} (h : takRight F n) (hi : i < n) : F i 2 = cf F i := by
  cases i with
  | zero => exact h.2.2.1 hi
  | succ i => exact h.2.2.2.1 i hi
theorem tk_right {s t : List UInt8} (h : takB s t = true) : takRight (tkF s t) s.length := by
  have hn := takB_num h
  refine ⟨(numB_len hn.1).2, fun i _ => tk_colOk hn.1 hn.2 i, fun _ => rfl, fun i _ => rfl, fun hp => ?_⟩
  show tkB s t 0 (s.length - 1 + 1) = 0
  rw [show s.length - 1 + 1 = s.length by omega]
  exact tk_last h

set_option maxRecDepth 20000 in
set_option maxHeartbeats 4000000 in
theorem sWrongTaken_ok (w : World) (B : Nat) (v : Value) (n : Nat) (F : Nat → Nat → Int) (hR : Recs w B v n 5 (IV F)) (hBw : B ≤ w.heap.size) (hT : takRight F n) :
    Calls Tryd.prog 74 #[v] w fun e w' => e = .returned (.int .i64 (-1)) ∧ Below w.heap.size w w' := by
  obtain ⟨A, cap, rfl, hnc, hcm, hcell⟩ := hR
  unfold maxLen at hcm
  have Hc := Lib.hid hcell
  have hn9 := hT.1
  have HT := Lib.hid hT
  clear hcell hT
  go_enter Tryd.func74, Tryd.ntmps74
  go_wp2_with fail
  go_loopg [3, 4, 5] n (fun g s3 s4 s5 wr => ∃ k : Nat, ∃ c : Int, g + k = n ∧ s4 = .int .i64 k ∧ s3 = .int .i64 c ∧ Hid (c = cf F k) ∧ Below w.heap.size w wr)
  case atStart => exact ⟨0, 0, rfl, rfl, rfl, Lib.hid rfl, Below.refl _ _⟩
  case round =>
    obtain ⟨k, c, hk, rfl, rfl, HC, hB⟩ := hrel
    by_cases hlt : k < n
    · obtain ⟨b, o, rfl, hb, hc⟩ := Hc.out (by omega)
      have hbw : b < w.heap.size := by omega
      have e0 := (hB.cell (p := ⟨b, o + k * 5, none⟩) hbw).trans (hc k hlt 0 (by omega))
      have e1 := (hB.cell (p := ⟨b, o + k * 5 + 1, none⟩) hbw).trans (hc k hlt 1 (by omega))
      have e2 := (hB.cell (p := ⟨b, o + k * 5 + 2, none⟩) hbw).trans (hc k hlt 2 (by omega))
      have e3 := (hB.cell (p := ⟨b, o + k * 5 + 3, none⟩) hbw).trans (hc k hlt 3 (by omega))
      have e4 := (hB.cell (p := ⟨b, o + k * 5 + 4, none⟩) hbw).trans (hc k hlt 4 (by omega))
      simp only [IV] at e0 e1 e2 e3 e4
      have hin := takRight_in HT.out hlt
      rw [← HC.out] at hin
      rw [hin] at e2
      have hok := HT.out.2.1 k hlt
      unfold colOk at hok
      rw [hin] at hok
      have HN := Lib.hid (show cf F (k + 1) = F k 4 from rfl)
      obtain ⟨h0, h1, h2, h3, h4, h5⟩ := hok
      clear hc hin
      generalize F k 0 = x0 at *
      generalize F k 1 = x1 at *
      generalize F k 3 = x3 at *
      generalize F k 4 = x4 at *
      have hBs := hB.size
      have hB1 := hB.alloc hBs (.cells #[.int .i64 x0, .int .i64 x1, .int .i64 c, .int .i64 x3, .int .i64 x4] 77)
      go_wp2_with fail
      refine (l2Digits_t _ _ _ _ _ _ h0 h1 h2 h3 h4).mono ?_
      rintro e w2 ⟨rfl, b2⟩
      have hB2 := below_own hB1 b2 hB1.size
      have hnew : ∀ j u, (#[Value.int .i64 x0, .int .i64 x1, .int .i64 c, .int .i64 x3, .int .i64 x4])[j]? = some u → w2.cell? ⟨wr.heap.size, j, none⟩ = some u := fun j u hj => by
        rw [b2.cell (p := ⟨wr.heap.size, j, none⟩) (by simp), World.cell?_alloc_mark, hj]
      have f0 := hnew 0 _ rfl
      have f1 := hnew 1 _ rfl
      have f2 := hnew 2 _ rfl
      have f3 := hnew 3 _ rfl
      have f4 := hnew 4 _ rfl
      have ht : (x0 + 10 * x4 != x1 + c + x3) = false := by simp; omega
      obtain ⟨h00, h01⟩ := h0
      obtain ⟨h10, h11⟩ := h1
      obtain ⟨h20, h21⟩ := h2
      obtain ⟨h30, h31⟩ := h3
      obtain ⟨h40, h41⟩ := h4
      clear hB hB1 hnew b2 e0 e1 e2 e3 e4 h5
      go_wp2_with fail
      go_roundg (gk - 1)
      case measure => omega
      case rel => exact ⟨k + 1, x4, by omega, by go_num, rfl, Lib.hid HN.out.symm, hB2⟩
    · obtain rfl : k = n := by omega
      have hc0 : c = 0 := by
        rw [HC.out]
        cases k with
        | zero => rfl
        | succ k => exact HT.out.2.2.2.2 (by omega)
      have e1 : (c == 1) = false := by rw [hc0]; rfl
      clear hc0
      go_wp2_with fail
      go_ret
      exact ⟨rfl, hB⟩

set_option maxRecDepth 20000 in
set_option maxHeartbeats 4000000 in
theorem sTakenOf (s t : ByteArray) (hs : s.size ≤ maxLen) (ht : t.size ≤ maxLen) (hk : takB s.data.toList t.data.toList = true) (w : World) :
    Calls Tryd.prog 55 #[.string s, .string t] w fun e w' => ∃ v, e = .returned v ∧ Own w' w.heap.size 77 5 v s.size (recCells 5 (IV (tkF s.data.toList t.data.toList)) s.size) ∧ Below w.heap.size w w' := by
  have HO := Lib.hid fun W => sOrder s t hs ht W
  have hx : 0 ≤ ordI s.data.toList t.data.toList := by simpa [takB] using hk
  have hn := takB_num hk
  have ID1 := Lib.hid fun k W => sDigit s hs hn.1 k W
  have ID2 := Lib.hid fun k W => sDigit t ht hn.2 k W
  have R1 := Lib.hid fun k => dg_range (numB_all hn.1) k
  have R2 := Lib.hid fun k => dg_range (numB_all hn.2) k
  have RB := Lib.hid fun k => tkB_01 hn.1 hn.2 0 k
  have RD := Lib.hid fun k => tkD_range hn.1 hn.2 0 k
  have hl := numB_len hn.1
  rw [str_len] at hl
  obtain ⟨l1, l2⟩ := hl
  obtain ⟨i0, hi, hz0, hz1, hz2⟩ := info_parts infoCol
  have hbel := (Below.refl w.heap.size w).alloc (Nat.le_refl _) (.cells #[] 77)
  have hown0 := owns_new w w.heap.size 77 5 0 #[] (Nat.le_refl _) (by decide) rfl
  have HTF := Lib.hid fun k => recCells5_succ (tkF s.data.toList t.data.toList) k
  have HZ := Lib.hid fun k => tk_zero s.data.toList t.data.toList k
  clear hs ht hk hn
  generalize ordI s.data.toList t.data.toList = x at *
  go_enter Tryd.func55, Tryd.ntmps55
  go_wp2_with fail
  refine (HO.out _).mono ?_
  rintro e w1 ⟨rfl, b1⟩
  have hB1 := below_own hbel b1 hbel.size
  have hown1 := own_below hown0 b1
  clear b1 hbel hown0 HO
  go_wp2_with fail
  go_loopg [5, 6, 7, 8, 9] s.size (fun g s5 s6 s7 s8 s9 wr => ∃ k : Nat, ∃ c : Int, g + k = s.size ∧ s7 = .int .i64 k ∧ s6 = .int .i64 c ∧ Hid (c = tkB s.data.toList t.data.toList 0 k) ∧ wr.ownsRow w.heap.size 77 5 s5 k (recCells 5 (IV (tkF s.data.toList t.data.toList)) k) ∧ Below w.heap.size w wr)
  case atStart => exact ⟨0, 0, rfl, rfl, rfl, Lib.hid rfl, by rw [recCells_zero]; exact hown1, hB1⟩
  case round =>
    obtain ⟨k, c, hk, rfl, rfl, HC, hown, hB⟩ := hrel
    by_cases hlt : k < s.size
    · have ra := R1.out k
      have rb := R2.out k
      have rc := RB.out k
      have rc' := RB.out (k + 1)
      have rd := RD.out k
      rw [← HC.out] at rc
      have hz := HZ.out k
      rw [← HC.out] at hz
      have hT := HTF.out k
      have e0 : tkF s.data.toList t.data.toList k 0 = dg s.data.toList k := rfl
      have e1 : tkF s.data.toList t.data.toList k 1 = dg t.data.toList k := rfl
      have e2 : tkF s.data.toList t.data.toList k 2 = tkB s.data.toList t.data.toList 0 k := rfl
      have e3 : tkF s.data.toList t.data.toList k 3 = tkD s.data.toList t.data.toList 0 k := rfl
      have e4 : tkF s.data.toList t.data.toList k 4 = tkB s.data.toList t.data.toList 0 (k + 1) := rfl
      rw [e0, e1, e2, e3, e4, ← HC.out] at hT
      have HT := Lib.hid hT
      clear hT e0 e1 e2 e3 e4
      go_wp2_with fail
      refine (ID1.out k _).mono ?_
      rintro e w' ⟨rfl, rfl⟩
      go_wp2_with fail
      refine (ID2.out k _).mono ?_
      rintro e w' ⟨rfl, rfl⟩
      generalize dg s.data.toList k = a at *
      generalize dg t.data.toList k = b at *
      generalize tkD s.data.toList t.data.toList 0 k = d at *
      generalize hc2 : tkB s.data.toList t.data.toList 0 (k + 1) = c2 at *
      have HC2 := Lib.hid hc2
      obtain ⟨a0, a9⟩ := ra
      obtain ⟨b0, b9⟩ := rb
      obtain ⟨d0, d9⟩ := rd
      have HOwn := Lib.hid hown
      have HBel := Lib.hid hB
      clear hown hB hc2
      by_cases hneg : a - b - c < 0
      · have hcc : c2 = 1 := by omega
        have hdd : d = a - b - c + 10 := by omega
        subst hcc hdd
        clear hz rc'
        have hc0 : 0 ≤ c := by omega
        have hc1 : c ≤ 1 := by omega
        clear rc
        go_wp2_with (at_builtin; refine wpList_append_own _ rfl _ _ 63 rfl w.heap.size 77 i0 _ 5 40 Tryd.underlying63 hi hz0 hz1 hz2 rfl (by decide) _ _ _ rfl ((HOwn.out.alloc _).alloc _) ⟨wr.heap.size + 1, 0, none⟩ 1 1 [.int .i64 a, .int .i64 b, .int .i64 c, .int .i64 (a - b - c + 10), .int .i64 1] rfl rfl (cells_at _ _ _ _ _ (by simp) rfl) (by simp [Value.oneCell']) (by unfold maxLen; omega) (by omega) (by have := HBel.out.size; simp; omega) ?_; intro v' w2 hown' hgrow _)
        have hB2 := ((HBel.out.alloc HBel.out.size (.cells #[.int .i64 a, .int .i64 b, .int .i64 c, .int .i64 (a - b - c + 10), .int .i64 1] 77)).alloc (by have := HBel.out.size; simp; omega) (.cells #[.int .i64 a, .int .i64 b, .int .i64 c, .int .i64 (a - b - c + 10), .int .i64 1] 77)).grown hgrow (by have := HBel.out.size; simp; omega) (fun j hj => (HOwn.out.lt j hj).1)
        go_roundg (gk - 1)
        case measure => omega
        case rel => exact ⟨k + 1, 1, by omega, by go_num, rfl, Lib.hid HC2.out.symm, by rw [HT.out]; exact hown', hB2⟩
      · have hcc : c2 = 0 := by omega
        have hdd : d = a - b - c := by omega
        subst hcc hdd
        have hneg' : 0 ≤ a - b - c := by omega
        have hc0 : 0 ≤ c := by omega
        have hc1 : c ≤ 1 := by omega
        clear hz rc' rc hneg
        go_wp2_with (at_builtin; refine wpList_append_own _ rfl _ _ 63 rfl w.heap.size 77 i0 _ 5 40 Tryd.underlying63 hi hz0 hz1 hz2 rfl (by decide) _ _ _ rfl ((HOwn.out.alloc _).alloc _) ⟨wr.heap.size + 1, 0, none⟩ 1 1 [.int .i64 a, .int .i64 b, .int .i64 c, .int .i64 (a - b - c), .int .i64 0] rfl rfl (cells_at _ _ _ _ _ (by simp) rfl) (by simp [Value.oneCell']) (by unfold maxLen; omega) (by omega) (by have := HBel.out.size; simp; omega) ?_; intro v' w2 hown' hgrow _)
        have hB2 := ((HBel.out.alloc HBel.out.size (.cells #[.int .i64 a, .int .i64 b, .int .i64 c, .int .i64 (a - b - c), .int .i64 0] 77)).alloc (by have := HBel.out.size; simp; omega) (.cells #[.int .i64 a, .int .i64 b, .int .i64 c, .int .i64 (a - b - c), .int .i64 0] 77)).grown hgrow (by have := HBel.out.size; simp; omega) (fun j hj => (HOwn.out.lt j hj).1)
        go_roundg (gk - 1)
        case measure => omega
        case rel => exact ⟨k + 1, 0, by omega, by go_num, rfl, Lib.hid HC2.out.symm, by rw [HT.out]; exact hown', hB2⟩
    · obtain rfl : k = s.size := by omega
      go_wp2_with fail
      go_ret
      exact ⟨_, rfl, Own.of_row hown, hB⟩

theorem tkF_col (s t : List UInt8) (n : Nat) : (List.range n).map (fun i => tkF s t i 3) = tkL s t 0 n := rfl
/-- What LeftOf writes. -/
theorem left_step (s t : List UInt8) (n k : Nat) (h : k < n) : bStr (tx (((tkL s t 0 n).drop (k + 1)).reverse)) ++ dStr (tkD s t 0 k).toNat = bStr (tx (((tkL s t 0 n).drop k).reverse)) := by
  have hl : k < (tkL s t 0 n).length := by rw [tkL_length]; exact h
  have e : (tkL s t 0 n)[k] = tkD s t 0 k := by simp [tkL]
  rw [List.drop_eq_getElem_cons hl, List.reverse_cons, tx_append, bStr_append, e]; rfl
theorem left_size (s t : List UInt8) (n k : Nat) : (bStr (tx (((tkL s t 0 n).drop k).reverse))).size = n - k := by rw [bStr_size, tx_length, List.length_reverse, List.length_drop, tkL_length]

set_option maxRecDepth 20000 in
set_option maxHeartbeats 4000000 in
theorem sDifference (s t : ByteArray) (hs : s.size ≤ maxLen) (ht : t.size ≤ maxLen) (hk : takB s.data.toList t.data.toList = true) (w : World) :
    Calls Tryd.prog 33 #[.string s, .string t] w fun e w' => e = .returned (.tuple #[.string (tkS s.data.toList t.data.toList 0), .bool true]) ∧ Below w.heap.size w w' := by
  have HT := Lib.hid fun W => sTakenOf s t hs ht hk W
  have hr := tk_right hk
  rw [str_len] at hr
  have HR := Lib.hid hr
  have hn := takB_num hk
  have hl := numB_len hn.1
  rw [str_len] at hl
  obtain ⟨l1, l2⟩ := hl
  have RD := Lib.hid fun k => tkD_range hn.1 hn.2 0 k
  have HS := Lib.hid fun k (h : k < s.size) => left_step s.data.toList t.data.toList s.size k h
  have HZ := Lib.hid fun k => left_size s.data.toList t.data.toList s.size k
  have HTR := Lib.hid (tk_trim hn.1 hn.2 0)
  rw [str_len] at HTR
  have hleft : ∀ (W : World) (v : Value), Recs W W.heap.size v s.size 5 (IV (tkF s.data.toList t.data.toList)) → Calls Tryd.prog 54 #[v] W fun e w' => e = .returned (.tuple #[.string (tkS s.data.toList t.data.toList 0), .bool true]) ∧ Below W.heap.size W w' := by
    intro W v hRc
    have CW := Lib.hid (sWrongTaken_ok W W.heap.size v s.size _ hRc (Nat.le_refl _) HR.out)
    have hRc' := hRc
    obtain ⟨A, cap, rfl, hnc, hcm, hcell⟩ := hRc'
    unfold maxLen at hcm
    clear hcell hs ht hk hn hr
    have e0 : ((s.size : Int) == 0) = false := beq_eq_false_iff_ne.2 (by omega)
    go_enter Tryd.func54, Tryd.ntmps54
    go_wp2_with fail
    refine CW.out.mono ?_
    rintro e w1 ⟨rfl, b1⟩
    have hR1 := hRc.below b1 (Nat.le_refl _)
    obtain ⟨A', cap', hv, _, _, hcell⟩ := hR1
    cases hv
    have Hc := Lib.hid hcell
    have hs1 := b1.size
    clear hcell hRc
    go_wp2_with fail
    go_loopg [4, 5] s.size (fun g s4 s5 wr => ∃ k : Nat, g = k ∧ k ≤ s.size ∧ s5 = .int .i64 ((k : Int) - 1) ∧ s4 = .string (bStr (tx (((tkL s.data.toList t.data.toList 0 s.size).drop k).reverse))) ∧ Below W.heap.size W wr ∧ Below w1.heap.size w1 wr)
    case atStart => exact ⟨s.size, rfl, Nat.le_refl _, rfl, by rw [List.drop_eq_nil_of_le (by rw [tkL_length]; exact Nat.le_refl _)]; rfl, b1, Below.refl _ _⟩
    case round =>
      obtain ⟨k, hgk, hks, rfl, rfl, hB, hB1⟩ := hrel
      subst hgk
      by_cases hlt : 0 < gk
      · obtain ⟨m, rfl⟩ : ∃ m, gk = m + 1 := ⟨gk - 1, by omega⟩
        obtain ⟨b, o, rfl, hb, hc⟩ := Hc.out (by omega)
        have hbw : b < w1.heap.size := by omega
        have e3 := (hB1.cell (p := ⟨b, o + m * 5 + 3, none⟩) hbw).trans (hc m (by omega) 3 (by omega))
        rw [show IV (tkF s.data.toList t.data.toList) m 3 = .int .i64 (tkD s.data.toList t.data.toList 0 m) from rfl] at e3
        have hd := RD.out m
        have hS := Lib.hid (HS.out m (by omega))
        have hz := HZ.out (m + 1)
        have k2 : (((m + 1 : Nat) : Int) - 1) = ((m : Nat) : Int) := by omega
        rw [k2]
        clear hc
        generalize bStr (tx (((tkL s.data.toList t.data.toList 0 s.size).drop (m + 1)).reverse)) = c at *
        generalize tkD s.data.toList t.data.toList 0 m = d at *
        go_wp2_with fail
        refine (numDig _ _ hd.1 hd.2).mono ?_
        rintro e w2 ⟨rfl, b2⟩
        have hds1 : (dStr d.toNat).size = 1 := rfl
        generalize dStr d.toNat = q at *
        have hB2 := below_own hB b2 hB.size
        have hB12 := below_own hB1 b2 hB1.size
        clear b2 hB hB1 e3
        go_wp2_with fail
        go_roundg m
        case measure => omega
        case rel => exact ⟨m, rfl, by omega, by first | rfl | go_num, by rw [hS.out], hB2, hB12⟩
      · obtain rfl : gk = 0 := by omega
        have hz := HZ.out 0
        have HTr := Lib.hid fun W => l2Trim_any (bStr (tx (((tkL s.data.toList t.data.toList 0 s.size).drop 0).reverse))) (by unfold maxLen; omega) W
        rw [bStr_list, List.drop_zero, HTR.out] at HTr
        rw [List.drop_zero] at hz ⊢
        clear HTR
        generalize bStr (tx ((tkL s.data.toList t.data.toList 0 s.size).reverse)) = c at *
        generalize hrr : tkS s.data.toList t.data.toList 0 = r at *
        have HRr := Lib.hid hrr
        clear hrr
        go_wp2_with fail
        refine (HTr.out _).mono ?_
        rintro e w' ⟨rfl, rfl⟩
        go_wp2_with fail
        go_ret2
        exact ⟨by rw [HRr.out]; rfl, hB⟩
  have HLf := Lib.hid hleft
  clear hleft hs ht hk hn hr
  generalize tkS s.data.toList t.data.toList 0 = r at *
  go_enter Tryd.func33, Tryd.ntmps33
  go_wp2_with fail
  refine (HT.out _).mono ?_
  rintro e w1 ⟨v, rfl, o1, b1⟩
  have hRc := Recs.of_own o1
  clear o1
  go_wp2_with fail
  refine (HLf.out _ v hRc).mono ?_
  rintro e w2 ⟨rfl, b2⟩
  have hB2 := below_own b1 b2 b1.size
  go_wp2_with fail
  go_ret2
  exact ⟨rfl, hB2⟩
end Go.Proofs.YtfhefngpeknhlabDoor
