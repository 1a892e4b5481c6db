/- The walks of l6Column and TakenBy, of the program and of the reference. -/
import Derived.Test.YtfhefngpeknhlaaDoorTk
import Derived.Test.YtfhefngpeknhlaaDoorStrs
namespace Go.Proofs.YtfhefngpeknhlaaDoor
set_option linter.unusedVariables false
set_option linter.unusedSimpArgs false
open Go.RowKit

set_option maxRecDepth 20000 in
set_option maxHeartbeats 4000000 in
theorem column_any (a b : Int) (wi : Bool) (c way : Int) (a0 : 0 ≤ a) (a9 : a ≤ 9) (b0 : 0 ≤ b) (b9 : b ≤ 9) (rc : c = 0 ∨ c = 1) (h0 : 0 ≤ way) (h1 : way ≤ 15) (w : World) :
    Calls Tryd.prog 94 #[.int .i64 a, .int .i64 b, .bool wi, .int .i64 c, .int .i64 way] w fun e w' => e = .returned (.tuple #[.int .i64 (colP a b wi c way).1, .int .i64 (colP a b wi c way).2]) ∧ w = w' := by
  go_enter Tryd.func94, Tryd.ntmps94
  go_upto_region 1 with fail
  go_cut [13] (fun s13 wx => s13 = .bool (decide (way / 4 % 2 = 1 ∧ a = 0 ∧ b ≠ 0)) ∧ wx = w)
  case first =>
    by_cases h4 : way / 4 % 2 = 1
    · have hb : (way / 4 % 2 == 1) = true := by simp [h4]
      by_cases ha : a = 0
      · have e2 : (a == 0) = true := by simp [ha]
        by_cases hb0 : b = 0
        · have e1 : ¬ 0 < b := by omega
          have HX := Lib.hid (show decide (way / 4 % 2 = 1 ∧ a = 0 ∧ b ≠ 0) = false by simp [hb0])
          clear h4 hb0 ha
          go_wp2_with fail
          go_meet
          exact ⟨by rw [HX.out], rfl⟩
        · have e1 : 0 < b := by omega
          have HX := Lib.hid (show decide (way / 4 % 2 = 1 ∧ a = 0 ∧ b ≠ 0) = true by simp [hb0, h4, ha])
          clear h4 hb0 ha
          go_wp2_with fail
          go_meet
          exact ⟨by rw [HX.out], rfl⟩
      · have e1 : (a == 0) = false := beq_eq_false_iff_ne.2 ha
        have HX := Lib.hid (show decide (way / 4 % 2 = 1 ∧ a = 0 ∧ b ≠ 0) = false by simp [ha])
        clear h4 ha
        go_wp2_with fail
        go_meet
        exact ⟨by rw [HX.out], rfl⟩
    · have hb : (way / 4 % 2 == 1) = false := beq_eq_false_iff_ne.2 h4
      have HX := Lib.hid (show decide (way / 4 % 2 = 1 ∧ a = 0 ∧ b ≠ 0) = false by simp [h4])
      clear h4
      go_wp2_with fail
      go_meet
      exact ⟨by rw [HX.out], rfl⟩
  case rest =>
  obtain ⟨rfl, hwx⟩ := hcut
  replace hwx := hwx.symm
  subst hwx
  by_cases p1 : way / 4 % 2 = 1 ∧ a = 0 ∧ b ≠ 0
  · have HE := Lib.hid (show colP a b wi c way = (b, 0) by unfold colP; rw [if_pos p1])
    have e1 : decide (way / 4 % 2 = 1 ∧ a = 0 ∧ b ≠ 0) = true := decide_eq_true p1
    rw [e1]
    clear p1 e1
    go_wp2_with fail
    go_ret2
    exact ⟨by rw [HE.out]; rfl, rfl⟩
  have E1 := Lib.hid p1
  have e1 : decide (way / 4 % 2 = 1 ∧ a = 0 ∧ b ≠ 0) = false := decide_eq_false p1
  rw [e1]
  clear p1 e1
  go_upto_region 3 with fail
  go_cut [27] (fun s27 wx => s27 = .bool (decide (way / 8 % 2 = 1 ∧ b = 0 ∧ wi = true)) ∧ wx = w)
  case first =>
    by_cases h8 : way / 8 % 2 = 1
    · have hb : (way / 8 % 2 == 1) = true := by simp [h8]
      by_cases hb0 : b = 0
      · have e1 : (b == 0) = true := by simp [hb0]
        cases wi
        · have HX := Lib.hid (show decide (way / 8 % 2 = 1 ∧ b = 0 ∧ false = true) = false by simp)
          clear h8 hb0
          go_wp2_with fail
          go_meet
          exact ⟨by rw [HX.out], rfl⟩
        · have HX := Lib.hid (show decide (way / 8 % 2 = 1 ∧ b = 0 ∧ true = true) = true by simp [h8, hb0])
          clear h8 hb0
          go_wp2_with fail
          go_meet
          exact ⟨by rw [HX.out], rfl⟩
      · have e1 : (b == 0) = false := beq_eq_false_iff_ne.2 hb0
        have HX := Lib.hid (show decide (way / 8 % 2 = 1 ∧ b = 0 ∧ wi = true) = false by simp [hb0])
        clear h8 hb0
        go_wp2_with fail
        go_meet
        exact ⟨by rw [HX.out], rfl⟩
    · have hb : (way / 8 % 2 == 1) = false := beq_eq_false_iff_ne.2 h8
      have HX := Lib.hid (show decide (way / 8 % 2 = 1 ∧ b = 0 ∧ wi = true) = false by simp [h8])
      clear h8
      go_wp2_with fail
      go_meet
      exact ⟨by rw [HX.out], rfl⟩
  case rest =>
  obtain ⟨rfl, hwx⟩ := hcut
  replace hwx := hwx.symm
  subst hwx
  by_cases p2 : way / 8 % 2 = 1 ∧ b = 0 ∧ wi = true
  · have HE := Lib.hid (show colP a b wi c way = (0, 0) by unfold colP; rw [if_neg E1.out, if_pos p2])
    have e1 : decide (way / 8 % 2 = 1 ∧ b = 0 ∧ wi = true) = true := decide_eq_true p2
    rw [e1]
    clear p2 e1
    go_wp2_with fail
    go_ret2
    exact ⟨by rw [HE.out]; rfl, rfl⟩
  have E2 := Lib.hid p2
  have e1 : decide (way / 8 % 2 = 1 ∧ b = 0 ∧ wi = true) = false := decide_eq_false p2
  rw [e1]
  clear p2 e1
  by_cases h1' : way % 2 = 1
  · have hb : (way % 2 == 1) = true := by simp [h1']
    by_cases hab : a ≤ b
    · have HE := Lib.hid (show colP a b wi c way = (b - a, 0) by unfold colP; rw [if_neg E1.out, if_neg E2.out, if_pos h1', if_pos hab])
      have hmx : max (a - b) (b - a) = b - a := by omega
      clear h1'
      go_wp2_with fail
      go_ret2
      exact ⟨by rw [HE.out]; rfl, rfl⟩
    · have HE := Lib.hid (show colP a b wi c way = (a - b, 0) by unfold colP; rw [if_neg E1.out, if_neg E2.out, if_pos h1', if_neg hab])
      have hab' : b < a := by omega
      have hmx : max (a - b) (b - a) = a - b := by omega
      clear h1' hab
      go_wp2_with fail
      go_ret2
      exact ⟨by rw [HE.out]; rfl, rfl⟩
  have hb : (way % 2 == 1) = false := beq_eq_false_iff_ne.2 h1'
  by_cases h2' : way / 2 % 2 = 0
  · have hbb : (way / 2 % 2 == 0) = true := by simp [h2']
    have hc0 : 0 ≤ c := by omega
    have hc1 : c ≤ 1 := by omega
    by_cases hn : a - b - c < 0
    · have HE := Lib.hid (show colP a b wi c way = (a - b - c + 10, 1) by unfold colP; rw [if_neg E1.out, if_neg E2.out, if_neg h1', if_pos h2', if_pos hn])
      clear h1' h2' rc
      go_wp2_with fail
      go_ret2
      exact ⟨by rw [HE.out]; rfl, rfl⟩
    · have HE := Lib.hid (show colP a b wi c way = (a - b - c, 0) by unfold colP; rw [if_neg E1.out, if_neg E2.out, if_neg h1', if_pos h2', if_neg hn])
      have hn' : 0 ≤ a - b - c := by omega
      clear h1' h2' hn rc
      go_wp2_with fail
      go_ret2
      exact ⟨by rw [HE.out]; rfl, rfl⟩
  · have hbb : (way / 2 % 2 == 0) = false := beq_eq_false_iff_ne.2 h2'
    by_cases hn : a - b < 0
    · have HE := Lib.hid (show colP a b wi c way = (a - b + 10, 1) by unfold colP; rw [if_neg E1.out, if_neg E2.out, if_neg h1', if_neg h2', Int.sub_zero, if_pos hn])
      clear h1' h2' rc
      go_wp2_with fail
      go_ret2
      exact ⟨by rw [HE.out]; rfl, rfl⟩
    · have HE := Lib.hid (show colP a b wi c way = (a - b, 0) by unfold colP; rw [if_neg E1.out, if_neg E2.out, if_neg h1', if_neg h2', Int.sub_zero, if_neg hn])
      have hn' : 0 ≤ a - b := by omega
      clear h1' h2' hn rc
      go_wp2_with fail
      go_ret2
      exact ⟨by rw [HE.out]; rfl, rfl⟩

/-- May one be taken from the other by a way? -/
def pairB (s t : List UInt8) (way : Int) : Bool := takB s t && decide (0 ≤ way ∧ way ≤ 15)
def pkS (s t : List UInt8) (way : Int) : ByteArray := if pairB s t way = true then tkS s t way else ByteArray.empty
theorem pairB_num {s t : List UInt8} {way : Int} (h : pairB s t way = true) : numB s = true ∧ numB t = true ∧ 0 ≤ way ∧ way ≤ 15 := by
  simp only [pairB, Bool.and_eq_true, decide_eq_true_eq] at h
  exact ⟨(takB_num h.1).1, (takB_num h.1).2, h.2⟩

set_option maxRecDepth 20000 in
set_option maxHeartbeats 1000000 in
theorem pair_any (s t : ByteArray) (way : Int) (hs : s.size ≤ maxLen) (ht : t.size ≤ maxLen) (w : World) :
    Calls Tryd.prog 93 #[.string s, .string t, .int .i64 way] w fun e w' => e = .returned (.bool (pairB s.data.toList t.data.toList way)) ∧ Below w.heap.size w w' := by
  have HT := Lib.hid fun W => sOrder s t hs ht W
  have HK := Lib.hid (show takB s.data.toList t.data.toList = decide (0 ≤ ordI s.data.toList t.data.toList) from rfl)
  have HP := Lib.hid (show pairB s.data.toList t.data.toList way = (takB s.data.toList t.data.toList && decide (0 ≤ way ∧ way ≤ 15)) from rfl)
  clear hs ht
  generalize pairB s.data.toList t.data.toList way = r at *
  generalize takB s.data.toList t.data.toList = q at *
  generalize ordI s.data.toList t.data.toList = x at *
  by_cases hx : 0 ≤ x
  · have hq : q = true := by rw [HK.out]; simpa using hx
    by_cases hw : 0 ≤ way ∧ way ≤ 15
    · have HR := Lib.hid (show r = true by rw [HP.out, hq]; simpa using hw)
      obtain ⟨h0, h1⟩ := hw
      clear hq HP HK
      go_enter Tryd.func93, Tryd.ntmps93
      go_wp2_with fail
      refine (HT.out _).mono ?_
      rintro e w1 ⟨rfl, b1⟩
      go_wp2_with (first | (go_at_call 58; ((with_reducible refine (sin_t _ _ _ _ ?_ ?_).mono ?_)); (omega); (omega); rintro e w' ⟨rfl, rfl⟩))
      go_ret
      exact ⟨by rw [HR.out]; rfl, b1⟩
    · have HR := Lib.hid (show r = false by rw [HP.out, hq]; simpa using hw)
      have hw' : way < 0 ∨ 15 < way := by omega
      clear hq HP HK hw
      go_enter Tryd.func93, Tryd.ntmps93
      go_wp2_with fail
      refine (HT.out _).mono ?_
      rintro e w1 ⟨rfl, b1⟩
      go_wp2_with (first | (go_at_call 58; ((with_reducible refine (sin_f _ _ _ _ ?_).mono ?_)); (omega); rintro e w' ⟨rfl, rfl⟩))
      go_ret
      exact ⟨by rw [HR.out]; rfl, b1⟩
  · have HR := Lib.hid (show r = false by rw [HP.out, HK.out]; simp [hx])
    have hx' : x < 0 := by omega
    clear HP HK hx
    go_enter Tryd.func93, Tryd.ntmps93
    go_wp2_with fail
    refine (HT.out _).mono ?_
    rintro e w1 ⟨rfl, b1⟩
    go_wp2_with fail
    go_ret
    exact ⟨by rw [HR.out]; rfl, b1⟩

theorem tk_step (s t : List UInt8) (way : Int) (k : Nat) : dStr (tkD s t way k).toNat ++ bStr (tx (tkL s t way k).reverse) = bStr (tx (tkL s t way (k + 1)).reverse) := by
  rw [tkL_succ, List.reverse_append]
  show _ = bStr (tx ([tkD s t way k] ++ (tkL s t way k).reverse))
  rw [tx_append, bStr_append]; rfl
theorem tk_size (s t : List UInt8) (way : Int) (k : Nat) : (bStr (tx (tkL s t way k).reverse)).size = k := by rw [bStr_size, tx_length, List.length_reverse, tkL_length]
theorem tk_trim {s t : List UInt8} (hs : numB s = true) (ht : numB t = true) (way : Int) : bStr (trimL (tx (tkL s t way s.length).reverse)) = tkS s t way := by
  have hl := numB_len hs
  have hlen : (tkL s t way s.length).reverse.length = s.length := by rw [List.length_reverse, tkL_length]
  have hne : (tkL s t way s.length).reverse ≠ [] := fun e => by rw [e] at hlen; simp at hlen; omega
  have hne2 : tx (tkL s t way s.length).reverse ≠ [] := fun e => hne (by have := congrArg List.length e; rw [tx_length] at this; exact List.eq_nil_of_length_eq_zero this)
  unfold tkS
  rw [trimL_eq _ hne2 (tx_mem fun d hd => tkL_mem hs ht way s.length d (List.mem_reverse.1 hd)), plS_short hne (by rw [hlen]; omega)]

set_option maxRecDepth 20000 in
set_option maxHeartbeats 4000000 in
theorem sTakenBy (s t : ByteArray) (way : Int) (hs : s.size ≤ maxLen) (ht : t.size ≤ maxLen) (w : World) :
    Calls Tryd.prog 59 #[.string s, .string t, .int .i64 way] w fun e w' => e = .returned (.tuple #[.string (pkS s.data.toList t.data.toList way), .bool (pairB s.data.toList t.data.toList way)]) ∧ Below w.heap.size w w' := by
  have HT := Lib.hid fun W => pair_any s t way hs ht W
  cases hk : pairB s.data.toList t.data.toList way with
  | false =>
    have H2 := Lib.hid (show pkS s.data.toList t.data.toList way = ByteArray.empty by unfold pkS; rw [hk]; rfl)
    rw [hk] at HT
    clear hk hs ht
    go_enter Tryd.func59, Tryd.ntmps59
    go_wp2_with fail
    refine (HT.out _).mono ?_
    rintro e w1 ⟨rfl, b1⟩
    go_wp2_with fail
    go_ret2
    exact ⟨by rw [H2.out]; rfl, b1⟩
  | true =>
    have H2 := Lib.hid (show pkS s.data.toList t.data.toList way = tkS s.data.toList t.data.toList way by unfold pkS; rw [hk]; rfl)
    obtain ⟨hns, hnt, h0, h1⟩ := pairB_num hk
    rw [hk] at HT
    have ID1 := Lib.hid fun k W => sDigit s hs hns k W
    have ID2 := Lib.hid fun k W => sDigit t ht hnt k W
    have R1 := Lib.hid fun k => dg_range (numB_all hns) k
    have R2 := Lib.hid fun k => dg_range (numB_all hnt) k
    have RB := Lib.hid fun k => tkB_01 hns hnt way k
    have RD := Lib.hid fun k => tkD_range hns hnt way k
    have HTl := Lib.hid (str_len t)
    have hl := numB_len hns
    rw [str_len] at hl
    obtain ⟨l1, l2⟩ := hl
    have hlt2 := (numB_len hnt).2
    rw [str_len] at hlt2
    have HTR := Lib.hid (tk_trim hns hnt way)
    rw [str_len] at HTR
    clear hs ht hns hnt hk
    go_enter Tryd.func59, Tryd.ntmps59
    go_wp2_with fail
    refine (HT.out _).mono ?_
    rintro e w1 ⟨rfl, b1⟩
    go_wp2_with fail
    go_loopg [8, 9, 10, 11, 12] s.size (fun g s8 s9 s10 s11 s12 wr => ∃ k : Nat, ∃ c : Int, g + k = s.size ∧ s10 = .int .i64 k ∧ s9 = .int .i64 c ∧ Hid (c = tkB s.data.toList t.data.toList way k) ∧ s8 = .string (bStr (tx (tkL s.data.toList t.data.toList way k).reverse)) ∧ Below w.heap.size w wr)
    case atStart => exact ⟨0, 0, rfl, rfl, rfl, Lib.hid rfl, rfl, b1⟩
    case round =>
      obtain ⟨k, c, hk, rfl, rfl, HC, rfl, hB⟩ := hrel
      by_cases hlt : k < s.size
      · have ra := R1.out k
        have rb := R2.out k
        have rc := RB.out k
        have rd := RD.out k
        rw [← HC.out] at rc
        have HP := Lib.hid (show (colP (dg s.data.toList k) (dg t.data.toList k) (decide (k < t.size)) c way).1 = tkD s.data.toList t.data.toList way k ∧ (colP (dg s.data.toList k) (dg t.data.toList k) (decide (k < t.size)) c way).2 = tkB s.data.toList t.data.toList way (k + 1) by rw [HC.out, ← HTl.out]; exact ⟨rfl, rfl⟩)
        have HCm := Lib.hid fun W => column_any (dg s.data.toList k) (dg t.data.toList k) (decide (k < t.size)) c way ra.1 ra.2 rb.1 rb.2 rc h0 h1 W
        rw [HP.out.1, HP.out.2] at HCm
        have HS := Lib.hid (tk_step s.data.toList t.data.toList way k)
        have hsz := tk_size s.data.toList t.data.toList way k
        generalize bStr (tx (tkL s.data.toList t.data.toList way k).reverse) = x at *
        clear rc HP
        have hkt : decide ((k : Int) < (t.size : Int)) = decide (k < t.size) := by simp
        generalize hwi : decide (k < t.size) = wi at *
        go_wp2_with fail
        refine (ID1.out k _).mono ?_
        rintro e w' ⟨rfl, rfl⟩
        go_wp2_with fail
        refine (ID2.out k _).mono ?_
        rintro e w' ⟨rfl, rfl⟩
        generalize dg s.data.toList k = a at *
        generalize dg t.data.toList k = b at *
        go_wp2_with fail
        refine (HCm.out _).mono ?_
        rintro e w' ⟨rfl, rfl⟩
        generalize hbo : tkB s.data.toList t.data.toList way (k + 1) = c2 at *
        generalize tkD s.data.toList t.data.toList way k = d at *
        go_wp2_with fail
        refine (numDig _ _ rd.1 rd.2).mono ?_
        rintro e w2 ⟨rfl, b2⟩
        have hds1 : (dStr d.toNat).size = 1 := rfl
        generalize dStr d.toNat = q at *
        have hB2 := below_own hB b2 hB.size
        have HBO := Lib.hid hbo
        clear hB b2 hbo
        go_wp2_with fail
        go_roundg (gk - 1)
        case measure => omega
        case rel => exact ⟨k + 1, c2, by omega, by go_num, rfl, Lib.hid HBO.out.symm, by rw [HS.out], hB2⟩
      · obtain rfl : k = s.size := by omega
        have hsz := tk_size s.data.toList t.data.toList way s.size
        have HTr := Lib.hid fun W => l2Trim_any (bStr (tx (tkL s.data.toList t.data.toList way s.size).reverse)) (by unfold maxLen; omega) W
        rw [bStr_list, HTR.out] at HTr
        clear HTR
        generalize bStr (tx (tkL s.data.toList t.data.toList way s.size).reverse) = x at *
        generalize tkS s.data.toList t.data.toList way = r at *
        go_wp2_with fail
        refine (HTr.out _).mono ?_
        rintro e w' ⟨rfl, rfl⟩
        go_wp2_with fail
        go_ret2
        exact ⟨by rw [H2.out]; rfl, hB⟩
end Go.Proofs.YtfhefngpeknhlaaDoor
