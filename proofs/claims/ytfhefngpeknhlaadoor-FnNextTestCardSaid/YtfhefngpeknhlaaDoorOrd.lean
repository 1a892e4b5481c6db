/- The walks of OrderOf, of the program and of the reference, and of takes. -/
import Derived.Test.YtfhefngpeknhlaaDoorNumW
import Derived.Test.YtfhefngpeknhlaaDoorShelf
import Derived.Test.YtfhefngpeknhlaaDoorInts
namespace Go.Proofs.YtfhefngpeknhlaaDoor
set_option linter.unusedVariables false
set_option linter.unusedSimpArgs false
open Go.RowKit

theorem compareBytes_eq : ∀ a b : List UInt8, Lib.compareBytes a b = cmpL a b := by
  intro a
  induction a with
  | nil => intro b; cases b <;> rfl
  | cons x a ih =>
    intro b
    cases b with
    | nil => rfl
    | cons y b =>
      simp only [Lib.compareBytes, cmpL, ih]
      by_cases h : x = y
      · subst h; simp [UInt8.lt_iff_toNat_lt]
      · rw [if_neg h]
        by_cases h1 : x < y
        · simp [h1]
        · have h2 : y < x := by
            rw [UInt8.lt_iff_toNat_lt] at h1 ⊢
            have hne : x.toNat ≠ y.toNat := fun e => h (UInt8.toNat_inj.1 e)
            omega
          simp [h1, h2]

def sgn (n : Int) : Int := if n < 0 then -1 else if n = 0 then 0 else 1
theorem sign_any (n : Int) (w : World) : Calls Tryd.prog 75 #[.int .i64 n] w fun e w' => e = .returned (.int .i64 (sgn n)) ∧ w = w' := by
  rcases Int.lt_trichotomy n 0 with h | h | h
  · have e : sgn n = -1 := by simp [sgn, h]
    rw [e]
    clear e
    go_enter Tryd.func75, Tryd.ntmps75
    go_wp2
    go_ret
    refine ⟨congrArg (fun z : Int => Ending.returned (.int .i64 z)) (?_ : max (-1) (min 1 n) = _), rfl⟩
    omega
  · subst h
    go_enter Tryd.func75, Tryd.ntmps75
    go_wp2
    go_ret
    exact ⟨rfl, rfl⟩
  · have e : sgn n = 1 := by unfold sgn; rw [if_neg (by omega), if_neg (by omega)]
    rw [e]
    clear e
    have h' : 1 ≤ n := by omega
    clear h
    go_enter Tryd.func75, Tryd.ntmps75
    go_wp2
    go_ret
    refine ⟨congrArg (fun z : Int => Ending.returned (.int .i64 z)) (?_ : max (-1) (min 1 n) = _), rfl⟩
    omega

theorem ordI_no1 {s t : List UInt8} (h : numB s = false) : ordI s t = -2 := by simp [ordI, h]
theorem ordI_no2 {s t : List UInt8} (h : numB t = false) : ordI s t = -2 := by simp [ordI, h]
theorem ordI_eq {s t : List UInt8} (h1 : numB s = true) (h2 : numB t = true) (h : s.length = t.length) : ordI s t = cmpL s t := by simp [ordI, h1, h2, h]
theorem ordI_ne {s t : List UInt8} (h1 : numB s = true) (h2 : numB t = true) (h : s.length ≠ t.length) : ordI s t = sgn ((s.length : Int) - t.length) := by
  simp only [ordI, h1, h2, Bool.not_true, Bool.or_self, Bool.false_eq_true, if_false, if_neg h, sgn]
  by_cases hl : s.length < t.length
  · rw [if_pos hl, if_pos (by omega)]
  · rw [if_neg hl, if_neg (by omega), if_neg (by omega)]

set_option maxHeartbeats 1000000 in
theorem iOrder (s t : ByteArray) (hs : s.size ≤ maxLen) (ht : t.size ≤ maxLen) (w : World) : Calls Tryd.prog 36 #[.string s, .string t] w fun e w' => e = .returned (.int .i64 (ordI s.data.toList t.data.toList)) ∧ w = w' := by
  have Hs := Lib.hid (iNum s hs)
  have Ht := Lib.hid (iNum t ht)
  clear hs ht
  cases h1 : numB s.data.toList with
  | true =>
    cases h2 : numB t.data.toList with
    | true =>
      have l1 := numB_len h1
      have l2 := numB_len h2
      rw [str_len] at l1 l2
      obtain ⟨l10, l11⟩ := l1
      obtain ⟨l20, l21⟩ := l2
      have Es := Lib.hid h1
      have Et := Lib.hid h2
      by_cases hl : s.size = t.size
      · have HF := Lib.hid (ordI_eq h1 h2 (by rw [str_len, str_len]; exact hl))
        have e1 : ((s.size : Int) != (t.size : Int)) = false := by simp [hl]
        clear h1 h2 hl
        go_enter Tryd.func36, Tryd.ntmps36
        go_wp2_with fail
        refine (Hs.out _).mono ?_
        rw [Es.out]
        rintro e w' ⟨rfl, rfl⟩
        go_wp2_with fail
        refine (Ht.out _).mono ?_
        rw [Et.out]
        rintro e w' ⟨rfl, rfl⟩
        go_wp2_with fail
        refine (Tryd.strings_Compare _ _ _).mono ?_
        rintro e w' ⟨rfl, rfl⟩
        go_wp2_with fail
        go_ret
        exact ⟨by rw [HF.out, ← compareBytes_eq]; rfl, rfl⟩
      · have HF := Lib.hid (ordI_ne h1 h2 (by rw [str_len, str_len]; exact hl))
        have e1 : ((s.size : Int) != (t.size : Int)) = true := by simp; omega
        clear h1 h2 hl
        go_enter Tryd.func36, Tryd.ntmps36
        go_wp2_with fail
        refine (Hs.out _).mono ?_
        rw [Es.out]
        rintro e w' ⟨rfl, rfl⟩
        go_wp2_with fail
        refine (Ht.out _).mono ?_
        rw [Et.out]
        rintro e w' ⟨rfl, rfl⟩
        go_wp2_with fail
        refine (sign_any _ _).mono ?_
        rintro e w' ⟨rfl, rfl⟩
        go_wp2_with fail
        go_ret
        exact ⟨by rw [HF.out, str_len, str_len]; rfl, rfl⟩
    | false =>
      have HF := Lib.hid (ordI_no2 (s := s.data.toList) h2)
      have Es := Lib.hid h1
      have Et := Lib.hid h2
      clear h1 h2
      go_enter Tryd.func36, Tryd.ntmps36
      go_wp2_with fail
      refine (Hs.out _).mono ?_
      rw [Es.out]
      rintro e w' ⟨rfl, rfl⟩
      go_wp2_with fail
      refine (Ht.out _).mono ?_
      rw [Et.out]
      rintro e w' ⟨rfl, rfl⟩
      go_wp2_with fail
      go_ret
      exact ⟨by rw [HF.out]; rfl, rfl⟩
  | false =>
    have HF := Lib.hid (ordI_no1 (t := t.data.toList) h1)
    have Es := Lib.hid h1
    clear h1
    go_enter Tryd.func36, Tryd.ntmps36
    go_wp2_with fail
    refine (Hs.out _).mono ?_
    rw [Es.out]
    rintro e w' ⟨rfl, rfl⟩
    go_wp2_with fail
    go_ret
    exact ⟨by rw [HF.out]; rfl, rfl⟩

theorem takes_any (s t : ByteArray) (hs : s.size ≤ maxLen) (ht : t.size ≤ maxLen) (w : World) : Calls Tryd.prog 80 #[.string s, .string t] w fun e w' => e = .returned (.bool (takB s.data.toList t.data.toList)) ∧ w = w' := by
  have HO := Lib.hid (iOrder s t hs ht)
  have HT := Lib.hid (show takB s.data.toList t.data.toList = decide (0 ≤ ordI s.data.toList t.data.toList) from rfl)
  generalize takB s.data.toList t.data.toList = tk at HT
  generalize ordI s.data.toList t.data.toList = x at HO HT
  go_enter Tryd.func80, Tryd.ntmps80
  go_wp2_with fail
  refine (HO.out _).mono ?_
  rintro e w' ⟨rfl, rfl⟩
  go_wp2_with fail
  go_ret
  exact ⟨by rw [HT.out]; rfl, rfl⟩

/-- After k equal bytes. -/
theorem cmpL_drop : ∀ (k : Nat) (s t : List UInt8), s.length = t.length → (∀ j, j < k → s.getD j 0 = t.getD j 0) → k ≤ s.length → cmpL s t = cmpL (s.drop k) (t.drop k) := by
  intro k
  induction k with
  | zero => intro s t _ _ _; simp
  | succ k ih =>
    intro s t hl he hk
    cases s with
    | nil => simp at hk
    | cons a s =>
      cases t with
      | nil => simp at hl
      | cons b t =>
        have h0 := he 0 (by omega)
        simp at h0
        subst h0
        rw [List.drop_succ_cons, List.drop_succ_cons, ← ih s t (by simpa using hl) (fun j hj => by simpa using he (j + 1) (by omega)) (by simpa using hk)]
        simp [cmpL]
theorem cmpL_all (s t : List UInt8) (hl : s.length = t.length) (he : ∀ j, j < s.length → s.getD j 0 = t.getD j 0) : cmpL s t = 0 := by
  rw [cmpL_drop s.length s t hl he (Nat.le_refl _), List.drop_of_length_le (Nat.le_refl _), List.drop_of_length_le (by omega)]
  rfl
theorem cmpL_here (s t : List UInt8) (hl : s.length = t.length) (k : Nat) (he : ∀ j, j < k → s.getD j 0 = t.getD j 0) (hk : k < s.length) (hne : s.getD k 0 ≠ t.getD k 0) :
    cmpL s t = if s.getD k 0 < t.getD k 0 then -1 else 1 := by
  rw [cmpL_drop k s t hl he (by omega), List.drop_eq_getElem_cons hk, List.drop_eq_getElem_cons (show k < t.length by omega)]
  rw [List.getD_eq_getElem?_getD, List.getElem?_eq_getElem hk, List.getD_eq_getElem?_getD, List.getElem?_eq_getElem (show k < t.length by omega)] at *
  simp only [Option.getD_some] at *
  simp only [cmpL, if_neg hne]
set_option maxHeartbeats 2000000 in
theorem sOrder (s t : ByteArray) (hs : s.size ≤ maxLen) (ht : t.size ≤ maxLen) (w : World) : Calls Tryd.prog 60 #[.string s, .string t] w fun e w' => e = .returned (.int .i64 (ordI s.data.toList t.data.toList)) ∧ Below w.heap.size w w' := by
  have Hs := Lib.hid (sNum s hs)
  have Ht := Lib.hid (sNum t ht)
  clear hs ht
  cases h1 : numB s.data.toList with
  | true =>
    cases h2 : numB t.data.toList with
    | true =>
      have l1 := numB_len h1
      have l2 := numB_len h2
      rw [str_len] at l1 l2
      obtain ⟨l10, l11⟩ := l1
      obtain ⟨l20, l21⟩ := l2
      have Es := Lib.hid h1
      have Et := Lib.hid h2
      by_cases hl : s.size = t.size
      · have HF := Lib.hid (ordI_eq h1 h2 (by rw [str_len, str_len]; exact hl))
        have HL := Lib.hid hl
        have e1 : ((s.size : Int) != (t.size : Int)) = false := by simp [hl]
        have l30 : s.size ≤ t.size := by omega
        clear h1 h2 hl
        go_enter Tryd.func60, Tryd.ntmps60
        go_wp2_with fail
        refine (Hs.out _).mono ?_
        rw [Es.out]
        rintro e w' ⟨rfl, rfl⟩
        go_wp2_with fail
        refine (Ht.out _).mono ?_
        rw [Et.out]
        rintro e w' ⟨rfl, rfl⟩
        go_wp2_with fail
        go_loopg [5] s.size (fun g s5 wr => ∃ k q : Nat, g + k = s.size ∧ s5 = .int .i64 k ∧ wr = w.drewN q ∧ ∀ j, j < k → s.data.toList.getD j 0 = t.data.toList.getD j 0)
        case atStart => exact ⟨0, 0, rfl, rfl, rfl, fun j hj => by omega⟩
        case round =>
          obtain ⟨k, q, hg, rfl, rfl, he⟩ := hrel
          have He := Lib.hid he
          clear he
          by_cases hlt : k < s.size
          · have hlt2 : k < t.size := by omega
            have i1 : (k : Int) < (s.size : Int) := by omega
            have i2 : (k : Int) < (t.size : Int) := by omega
            by_cases hne : s[k] = t[k]
            · have b1 : ((s[k].toNat : Int) != (t[k].toNat : Int)) = false := by simp [hne]
              have Hn := Lib.hid hne
              clear hne
              go_wp2_with fail
              go_quiet (fail)
              go_wp2
              go_roundg (gk - 1)
              case measure => omega
              case rel => exact ⟨k + 1, _, by omega, by go_num, rfl, fun j hj => by
                by_cases e : j = k
                · subst e; rw [str_at s j hlt, str_at t j hlt2]; exact Hn.out
                · exact He.out j (by omega)⟩
            · have b1 : ((s[k].toNat : Int) != (t[k].toNat : Int)) = true := by
                simp only [bne_iff_ne, ne_eq, Int.natCast_inj]
                exact fun e => hne (UInt8.toNat_inj.1 e)
              have HC := cmpL_here s.data.toList t.data.toList (by rw [str_len, str_len]; exact HL.out) k He.out (by rw [str_len]; exact hlt) (by rw [str_at s k hlt, str_at t k hlt2]; exact hne)
              rw [str_at s k hlt, str_at t k hlt2] at HC
              clear hne
              by_cases hc : s[k].toNat < t[k].toNat
              · rw [if_pos (UInt8.lt_iff_toNat_lt.2 hc)] at HC
                have HC' := Lib.hid HC
                clear HC
                go_wp2_with fail
                go_quiet (fail)
                go_wp2_with fail
                go_quiet (fail)
                go_wp2
                go_ret
                exact ⟨by rw [HF.out, HC'.out]; rfl, by simp only [World.drewN_drewN]; exact below_drewN (Below.refl _ _) _⟩
              · rw [if_neg (fun e => hc (UInt8.lt_iff_toNat_lt.1 e))] at HC
                have HC' := Lib.hid HC
                clear HC
                have hc' : t[k].toNat ≤ s[k].toNat := by omega
                clear hc
                go_wp2_with fail
                go_quiet (fail)
                go_wp2_with fail
                go_quiet (fail)
                go_wp2
                go_ret
                exact ⟨by rw [HF.out, HC'.out]; rfl, by simp only [World.drewN_drewN]; exact below_drewN (Below.refl _ _) _⟩
          · obtain rfl : k = s.size := by omega
            have HC := Lib.hid (cmpL_all s.data.toList t.data.toList (by rw [str_len, str_len]; exact HL.out) (by rw [str_len]; exact He.out))
            go_wp2
            go_ret
            exact ⟨by rw [HF.out, HC.out]; rfl, below_drewN (Below.refl _ _) _⟩
      · have HF := Lib.hid (ordI_ne h1 h2 (by rw [str_len, str_len]; exact hl))
        have e1 : ((s.size : Int) != (t.size : Int)) = true := by simp; omega
        by_cases hlt : s.size < t.size
        · have HG := Lib.hid (show sgn ((s.size : Int) - t.size) = -1 by unfold sgn; rw [if_pos (by omega)])
          clear h1 h2 hl
          go_enter Tryd.func60, Tryd.ntmps60
          go_wp2_with fail
          refine (Hs.out _).mono ?_
          rw [Es.out]
          rintro e w' ⟨rfl, rfl⟩
          go_wp2_with fail
          refine (Ht.out _).mono ?_
          rw [Et.out]
          rintro e w' ⟨rfl, rfl⟩
          go_wp2_with fail
          go_ret
          exact ⟨by rw [HF.out, str_len, str_len, HG.out]; rfl, Below.refl _ _⟩
        · have HG := Lib.hid (show sgn ((s.size : Int) - t.size) = 1 by unfold sgn; rw [if_neg (by omega), if_neg (by omega)])
          have hlt' : t.size ≤ s.size := by omega
          clear h1 h2 hl hlt
          go_enter Tryd.func60, Tryd.ntmps60
          go_wp2_with fail
          refine (Hs.out _).mono ?_
          rw [Es.out]
          rintro e w' ⟨rfl, rfl⟩
          go_wp2_with fail
          refine (Ht.out _).mono ?_
          rw [Et.out]
          rintro e w' ⟨rfl, rfl⟩
          go_wp2_with fail
          go_ret
          exact ⟨by rw [HF.out, str_len, str_len, HG.out]; rfl, Below.refl _ _⟩
    | false =>
      have HF := Lib.hid (ordI_no2 (s := s.data.toList) h2)
      have Es := Lib.hid h1
      have Et := Lib.hid h2
      clear h1 h2
      go_enter Tryd.func60, Tryd.ntmps60
      go_wp2_with fail
      refine (Hs.out _).mono ?_
      rw [Es.out]
      rintro e w' ⟨rfl, rfl⟩
      go_wp2_with fail
      refine (Ht.out _).mono ?_
      rw [Et.out]
      rintro e w' ⟨rfl, rfl⟩
      go_wp2_with fail
      go_ret
      exact ⟨by rw [HF.out]; rfl, Below.refl _ _⟩
  | false =>
    have HF := Lib.hid (ordI_no1 (t := t.data.toList) h1)
    have Es := Lib.hid h1
    clear h1
    go_enter Tryd.func60, Tryd.ntmps60
    go_wp2_with fail
    refine (Hs.out _).mono ?_
    rw [Es.out]
    rintro e w' ⟨rfl, rfl⟩
    go_wp2_with fail
    go_ret
    exact ⟨by rw [HF.out]; rfl, Below.refl _ _⟩
end Go.Proofs.YtfhefngpeknhlaaDoor
