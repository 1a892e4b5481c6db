/- The walks of NumeralOk and the digits, of the program and of the reference. -/
import Derived.Test.YtfmfjbphflkhiaaGreatDoorBase
import Derived.Test.YtfmfjbphflkhiaaGreatDoorNum
namespace Go.Proofs.YtfmfjbphflkhiaaGreatDoor
set_option linter.unusedVariables false
set_option linter.unusedSimpArgs false
open Go.RowKit

theorem str_at (s : ByteArray) (k : Nat) (h : k < s.size) : s.data.toList.getD k 0 = s[k] := by
  rw [List.getD_eq_getElem?_getD, List.getElem?_eq_getElem (by simpa using h)]; rfl
theorem isD_at (s : ByteArray) (k : Nat) (h : k < s.size) (h1 : 48 ≤ s[k].toNat) (h2 : s[k].toNat ≤ 57) : isD (s.data.toList.getD k 0) = true := by
  rw [str_at s k h]; simp [isD, h1, h2]
theorem str_mem (s : ByteArray) (k : Nat) (h : k < s.size) : s[k] ∈ s.data.toList := by
  rw [← str_at s k h, List.getD_eq_getElem?_getD, List.getElem?_eq_getElem (by simpa using h)]
  exact List.getElem_mem _
theorem numB_bad (s : ByteArray) (k : Nat) (h : k < s.size) (hb : s[k].toNat < 48 ∨ 57 < s[k].toNat) : numB s.data.toList = false := by
  cases e : numB s.data.toList with
  | false => rfl
  | true => have := numB_all e _ (str_mem s k h); omega
theorem str_len (s : ByteArray) : s.data.toList.length = s.size := by rw [Array.length_toList]; rfl
theorem str_head (s : ByteArray) (h : 0 < s.size) : s.data.toList.headD 0 = s[0] := by
  rw [← str_at s 0 h]
  cases s.data.toList <;> simp
theorem numB_long (s : ByteArray) (h : s.size < 1 ∨ 9 < s.size) : numB s.data.toList = false := by
  cases e : numB s.data.toList with
  | false => rfl
  | true => have := numB_len e; rw [str_len] at this; omega
theorem numB_nought (s : ByteArray) (h : 1 ≤ s.size) (h0 : s[0].toNat = 48) (h1 : s.size ≠ 1) : numB s.data.toList = false := by
  cases e : numB s.data.toList with
  | false => rfl
  | true =>
    have := numB_head e
    rw [str_head s h, str_len] at this
    rcases this with h2 | h2
    · exact absurd (UInt8.toNat_inj.1 (h0.trans rfl)) h2
    · exact absurd h2 h1
theorem numB_good (s : ByteArray) (hd : ∀ j, j < s.size → isD (s.data.toList.getD j 0) = true) (h : 1 ≤ s.size) (h9 : s.size ≤ 9) (h0 : s[0].toNat ≠ 48 ∨ s.size = 1) : numB s.data.toList = true := by
  refine numB_mk (fun b hb => ?_) (by rw [str_len]; exact h) (by rw [str_len]; exact h9) ?_
  · obtain ⟨j, hj, rfl⟩ := List.getElem_of_mem hb
    have hj' : j < s.size := by rw [str_len] at hj; exact hj
    have := hd j hj'
    rw [List.getD_eq_getElem?_getD, List.getElem?_eq_getElem hj] at this
    simpa [isD] using this
  · rw [str_head s h, str_len]
    rcases h0 with h0 | h0
    · exact .inl fun e => h0 (by rw [e]; rfl)
    · exact .inr h0

set_option maxHeartbeats 2000000 in
theorem iNum (s : ByteArray) (hs : s.size ≤ maxLen) (w : World) : Calls Tryz.prog 17 #[.string s] w fun e w' => e = .returned (.bool (numB s.data.toList)) ∧ w = w' := by
  unfold maxLen at hs
  go_enter Tryz.func17, Tryz.ntmps17
  go_wp2
  go_loop [3] (fun s3 => ∃ k : Nat, k ≤ s.size ∧ s3 = .int .i64 k ∧ ∀ j, j < k → isD (s.data.toList.getD j 0) = true) (fun s3 => s.size - (intOf s3).toNat)
  case atStart => exact ⟨0, by omega, rfl, fun j hj => by omega⟩
  case round =>
    obtain ⟨k, hk, rfl, hd⟩ := hrel
    have Hd := Lib.hid hd
    clear hd
    by_cases hlt : k < s.size
    · by_cases h1 : s[k].toNat < 48
      · have Hn := Lib.hid (numB_bad s k hlt (.inl h1))
        go_wp2
        go_ret
        exact ⟨by rw [Hn.out]; rfl, rfl⟩
      · by_cases h2 : 57 < s[k].toNat
        · have Hn := Lib.hid (numB_bad s k hlt (.inr h2))
          have h1' : 48 ≤ s[k].toNat := by omega
          clear h1
          go_wp2
          go_ret
          exact ⟨by rw [Hn.out]; rfl, rfl⟩
        · have h1' : 48 ≤ s[k].toNat := by omega
          have h2' : s[k].toNat ≤ 57 := by omega
          have Hn := Lib.hid (isD_at s k hlt h1' h2')
          clear h1 h2
          go_wp2
          go_round
          case rel => exact ⟨k + 1, by omega, by go_num, fun j hj => by
            by_cases e : j = k
            · subst e; exact Hn.out
            · exact Hd.out j (by omega)⟩
          case measure => simp [intOf]; omega
    · obtain rfl : k = s.size := by omega
      by_cases h1 : 1 ≤ s.size ∧ s.size ≤ 9
      · obtain ⟨h1, h2⟩ := h1
        by_cases h3 : s[0].toNat = 48
        · by_cases h4 : s.size = 1
          · have Hn := Lib.hid (numB_good s Hd.out h1 h2 (.inr h4))
            have e1 : ((s[0].toNat : Int) != 48) = false := by simp [h3]
            have e2 : ((s.size : Int) == 1) = true := by simp [h4]
            clear h3 h4
            go_wp2_with (go_at_call 35; ((with_reducible refine (in_t _ _ _ _ ?_ ?_).mono ?_)); (omega); (omega); rintro e w' ⟨rfl, rfl⟩)
            go_ret
            exact ⟨by rw [Hn.out]; rfl, rfl⟩
          · have Hn := Lib.hid (numB_nought s h1 h3 h4)
            have e1 : ((s[0].toNat : Int) != 48) = false := by simp [h3]
            have e2 : ((s.size : Int) == 1) = false := by simp; omega
            clear h3 h4
            go_wp2_with (go_at_call 35; ((with_reducible refine (in_t _ _ _ _ ?_ ?_).mono ?_)); (omega); (omega); rintro e w' ⟨rfl, rfl⟩)
            go_ret
            exact ⟨by rw [Hn.out]; rfl, rfl⟩
        · have Hn := Lib.hid (numB_good s Hd.out h1 h2 (.inl h3))
          have e1 : ((s[0].toNat : Int) != 48) = true := by simp; omega
          clear h3
          by_cases h4 : s.size = 1
          · have e2 : ((s.size : Int) == 1) = true := by simp [h4]
            clear h4
            go_wp2_with (go_at_call 35; ((with_reducible refine (in_t _ _ _ _ ?_ ?_).mono ?_)); (omega); (omega); rintro e w' ⟨rfl, rfl⟩)
            go_ret
            exact ⟨by rw [Hn.out]; rfl, rfl⟩
          · have e2 : ((s.size : Int) == 1) = false := by simp; omega
            clear h4
            go_wp2_with (go_at_call 35; ((with_reducible refine (in_t _ _ _ _ ?_ ?_).mono ?_)); (omega); (omega); rintro e w' ⟨rfl, rfl⟩)
            go_ret
            exact ⟨by rw [Hn.out]; rfl, rfl⟩
      · have h2 : s.size < 1 ∨ 9 < s.size := by omega
        have Hn := Lib.hid (numB_long s h2)
        clear h1
        go_wp2_with (go_at_call 35; ((with_reducible refine (in_f _ _ _ _ ?_).mono ?_)); (omega); rintro e w' ⟨rfl, rfl⟩)
        go_ret
        exact ⟨by rw [Hn.out]; rfl, rfl⟩

set_option maxHeartbeats 2000000 in
theorem sNum (s : ByteArray) (hs : s.size ≤ maxLen) (w : World) : Calls Tryz.prog 23 #[.string s] w fun e w' => e = .returned (.bool (numB s.data.toList)) ∧ w = w' := by
  unfold maxLen at hs
  go_enter Tryz.func23, Tryz.ntmps23
  go_wp2
  go_loop [3] (fun s3 => ∃ k : Nat, k ≤ s.size ∧ s3 = .int .i64 k ∧ ∀ j, j < k → isD (s.data.toList.getD j 0) = true) (fun s3 => s.size - (intOf s3).toNat)
  case atStart => exact ⟨0, by omega, rfl, fun j hj => by omega⟩
  case round =>
    obtain ⟨k, hk, rfl, hd⟩ := hrel
    have Hd := Lib.hid hd
    clear hd
    by_cases hlt : k < s.size
    · by_cases h1 : s[k].toNat < 48
      · have Hn := Lib.hid (numB_bad s k hlt (.inl h1))
        go_wp2
        go_ret
        exact ⟨by rw [Hn.out]; rfl, rfl⟩
      · by_cases h2 : 57 < s[k].toNat
        · have Hn := Lib.hid (numB_bad s k hlt (.inr h2))
          have h1' : 48 ≤ s[k].toNat := by omega
          clear h1
          go_wp2
          go_ret
          exact ⟨by rw [Hn.out]; rfl, rfl⟩
        · have h1' : 48 ≤ s[k].toNat := by omega
          have h2' : s[k].toNat ≤ 57 := by omega
          have Hn := Lib.hid (isD_at s k hlt h1' h2')
          clear h1 h2
          go_wp2
          go_round
          case rel => exact ⟨k + 1, by omega, by go_num, fun j hj => by
            by_cases e : j = k
            · subst e; exact Hn.out
            · exact Hd.out j (by omega)⟩
          case measure => simp [intOf]; omega
    · obtain rfl : k = s.size := by omega
      by_cases h1 : 1 ≤ s.size ∧ s.size ≤ 9
      · obtain ⟨h1, h2⟩ := h1
        by_cases h3 : s[0].toNat = 48
        · by_cases h4 : s.size = 1
          · have Hn := Lib.hid (numB_good s Hd.out h1 h2 (.inr h4))
            have e1 : ((s[0].toNat : Int) != 48) = false := by simp [h3]
            have e2 : ((s.size : Int) == 1) = true := by simp [h4]
            clear h3 h4
            go_wp2_with (go_at_call 41; ((with_reducible refine (sin_t _ _ _ _ ?_ ?_).mono ?_)); (omega); (omega); rintro e w' ⟨rfl, rfl⟩)
            go_ret
            exact ⟨by rw [Hn.out]; rfl, rfl⟩
          · have Hn := Lib.hid (numB_nought s h1 h3 h4)
            have e1 : ((s[0].toNat : Int) != 48) = false := by simp [h3]
            have e2 : ((s.size : Int) == 1) = false := by simp; omega
            clear h3 h4
            go_wp2_with (go_at_call 41; ((with_reducible refine (sin_t _ _ _ _ ?_ ?_).mono ?_)); (omega); (omega); rintro e w' ⟨rfl, rfl⟩)
            go_ret
            exact ⟨by rw [Hn.out]; rfl, rfl⟩
        · have Hn := Lib.hid (numB_good s Hd.out h1 h2 (.inl h3))
          have e1 : ((s[0].toNat : Int) != 48) = true := by simp; omega
          clear h3
          by_cases h4 : s.size = 1
          · have e2 : ((s.size : Int) == 1) = true := by simp [h4]
            clear h4
            go_wp2_with (go_at_call 41; ((with_reducible refine (sin_t _ _ _ _ ?_ ?_).mono ?_)); (omega); (omega); rintro e w' ⟨rfl, rfl⟩)
            go_ret
            exact ⟨by rw [Hn.out]; rfl, rfl⟩
          · have e2 : ((s.size : Int) == 1) = false := by simp; omega
            clear h4
            go_wp2_with (go_at_call 41; ((with_reducible refine (sin_t _ _ _ _ ?_ ?_).mono ?_)); (omega); (omega); rintro e w' ⟨rfl, rfl⟩)
            go_ret
            exact ⟨by rw [Hn.out]; rfl, rfl⟩
      · have h2 : s.size < 1 ∨ 9 < s.size := by omega
        have Hn := Lib.hid (numB_long s h2)
        clear h1
        go_wp2_with (go_at_call 41; ((with_reducible refine (sin_f _ _ _ _ ?_).mono ?_)); (omega); rintro e w' ⟨rfl, rfl⟩)
        go_ret
        exact ⟨by rw [Hn.out]; rfl, rfl⟩

set_option maxHeartbeats 1000000 in
/-- The digit at a place. -/
theorem iDigit (s : ByteArray) (hs : s.size ≤ maxLen) (hn : numB s.data.toList = true) (k : Nat) (w : World) : Calls Tryz.prog 20 #[.string s, .int .i64 k] w fun e w' => e = .returned (.int .i64 (dg s.data.toList k)) ∧ w = w' := by
  have hall := numB_all hn
  have hln := numB_len hn
  rw [str_len] at hln
  obtain ⟨l1, l2⟩ := hln
  clear hs hn
  by_cases h : k < s.size
  · have h1 := hall _ (str_mem s (s.size - 1 - k) (by omega))
    obtain ⟨h10, h11⟩ := h1
    have HF := Lib.hid (show dg s.data.toList k = (s[s.size - 1 - k].toNat : Int) - 48 by unfold dg; rw [str_len, if_pos h, str_at s _ (by omega)])
    clear hall
    have h' : ¬ (s.size ≤ k) := by omega
    go_enter Tryz.func20, Tryz.ntmps20
    go_wp2
    go_ret
    exact ⟨by rw [HF.out]; rfl, rfl⟩
  · have HF := Lib.hid (show dg s.data.toList k = 0 by unfold dg; rw [str_len, if_neg h])
    have h' : s.size ≤ k := by omega
    clear hall h
    go_enter Tryz.func20, Tryz.ntmps20
    go_wp2
    go_ret
    exact ⟨by rw [HF.out]; rfl, rfl⟩

set_option maxHeartbeats 1000000 in
theorem sDigit (s : ByteArray) (hs : s.size ≤ maxLen) (hn : numB s.data.toList = true) (k : Nat) (w : World) : Calls Tryz.prog 26 #[.string s, .int .i64 k] w fun e w' => e = .returned (.int .i64 (dg s.data.toList k)) ∧ w = w' := by
  have hall := numB_all hn
  have hln := numB_len hn
  rw [str_len] at hln
  obtain ⟨l1, l2⟩ := hln
  have Hnum := Lib.hid (sNum s hs)
  have HN := Lib.hid hn
  clear hs hn
  by_cases h : k < s.size
  · have h1 := hall _ (str_mem s (s.size - 1 - k) (by omega))
    obtain ⟨h10, h11⟩ := h1
    have HF := Lib.hid (show dg s.data.toList k = (s[s.size - 1 - k].toNat : Int) - 48 by unfold dg; rw [str_len, if_pos h, str_at s _ (by omega)])
    clear hall
    have h' : ¬ (s.size ≤ k) := by omega
    go_enter Tryz.func26, Tryz.ntmps26
    go_wp2_with fail
    refine (Hnum.out _).mono ?_
    rw [HN.out]
    rintro e w' ⟨rfl, rfl⟩
    go_wp2_with fail
    go_ret
    exact ⟨by rw [HF.out]; rfl, rfl⟩
  · have HF := Lib.hid (show dg s.data.toList k = 0 by unfold dg; rw [str_len, if_neg h])
    have h' : s.size ≤ k := by omega
    clear hall h
    go_enter Tryz.func26, Tryz.ntmps26
    go_wp2_with fail
    refine (Hnum.out _).mono ?_
    rw [HN.out]
    rintro e w' ⟨rfl, rfl⟩
    go_wp2_with fail
    go_ret
    exact ⟨by rw [HF.out]; rfl, rfl⟩

theorem alive_any (w : World) : Calls Tryz.prog 9 #[] w fun e w' => e = .returned (.bool true) ∧ w = w' := by
  go_enter Tryz.func9, Tryz.ntmps9
  go_wp2_with fail
  refine (iNum _ (by decide) _).mono ?_
  rintro e w' ⟨rfl, rfl⟩
  go_wp2_with fail
  refine (iNum _ (by decide) _).mono ?_
  rintro e w' ⟨rfl, rfl⟩
  go_wp2_with fail
  go_ret
  exact ⟨rfl, rfl⟩
end Go.Proofs.YtfmfjbphflkhiaaGreatDoor
