/- What a drawn division is, in plain words; how its transcript is right. -/
import Derived.Test.YtfmfjbphflkhiaaDoorRes2
import Derived.BigQuiet
namespace Go.Proofs.YtfmfjbphflkhiaaDoor
set_option linter.unusedVariables false
set_option linter.unusedSimpArgs false
open Go.RowKit

theorem lf_dv (bs : List UInt8) (d : Int) (i : Nat) : lf (dvF bs d) i = dvL bs d i := by
  cases i with
  | zero => rfl
  | succ i => simp [lf, dvF]
theorem dv_right (s : ByteArray) (d : Int) (hn : numB s.data.toList = true) (hd : 1 ≤ d) (hd2 : d ≤ 99) (i : Nat) (hi : i < s.size) : stepOk (dvF s.data.toList d) d i = true := by
  have h1 := dvL_range s.data.toList d hd i
  have h3 := numB_all hn _ (str_mem s i hi)
  have h4 : 0 ≤ dA s.data.toList i ∧ dA s.data.toList i ≤ 9 := by rw [dA_at s i hi]; omega
  have hX : 0 ≤ 10 * dvL s.data.toList d i + dA s.data.toList i := by omega
  have q0 : 0 ≤ (10 * dvL s.data.toList d i + dA s.data.toList i) / d := Int.ediv_nonneg hX (by omega)
  have q1 : (10 * dvL s.data.toList d i + dA s.data.toList i) / d < 10 := Int.ediv_lt_of_lt_mul (by omega) (by omega)
  have r0 := Int.emod_nonneg (10 * dvL s.data.toList d i + dA s.data.toList i) (show d ≠ 0 by omega)
  have r1 := Int.emod_lt_of_pos (10 * dvL s.data.toList d i + dA s.data.toList i) (show 0 < d by omega)
  have hdm := Int.ediv_mul_add_emod (10 * dvL s.data.toList d i + dA s.data.toList i) d
  refine stepOk_iff.2 ?_
  rw [lf_dv]
  have e0 : dvF s.data.toList d i 0 = dvL s.data.toList d i := rfl
  have e1 : dvF s.data.toList d i 1 = dA s.data.toList i := rfl
  have e2 : dvF s.data.toList d i 2 = (10 * dvL s.data.toList d i + dA s.data.toList i) / d := rfl
  have e3 : dvF s.data.toList d i 3 = (10 * dvL s.data.toList d i + dA s.data.toList i) % d := rfl
  rw [e0, e1, e2, e3]
  omega
theorem dv_ok (s : ByteArray) (d : Int) (h : dvN s d ≠ 0) : numB s.data.toList = true ∧ 1 ≤ d ∧ d ≤ 99 ∧ dvN s d = s.size ∧ wsI (dvF s.data.toList d) (dvN s d) d = -1 ∧ rsOk (dvF s.data.toList d) (dvN s d) d = true := by
  have h' := h
  unfold dvN at h
  split at h
  · rename_i hc
    obtain ⟨hn, h1, h2⟩ := hc
    have e : dvN s d = s.size := if_pos ⟨hn, h1, h2⟩
    have hl := numB_len hn
    rw [str_len] at hl
    have hw : wsI (dvF s.data.toList d) (dvN s d) d = -1 := by
      rw [e]
      unfold wsI
      rw [if_pos ⟨by omega, h1, h2⟩]
      exact firstBad_none fun j hj => dv_right s d hn h1 h2 j hj
    exact ⟨hn, h1, h2, e, hw, by simp [rsOk, hw, h']⟩
  · exact absurd rfl h
theorem trimZ_num_self {bs : List UInt8} (h : numB bs = true) : trimZ bs = bs := by
  have hl := numB_len h
  have hh := numB_head h
  cases bs with
  | nil => simp at hl
  | cons a r =>
    by_cases ha : a = 48
    · subst ha
      rcases hh with hh | hh
      · exact absurd rfl hh
      · have : r = [] := by simpa using hh
        subst this; rfl
    · have e : (a == 48) = false := by simpa using ha
      simp [trimZ, trim0, List.dropWhile, e]
theorem tx_digits {bs : List UInt8} (h : numB bs = true) : tx ((List.range bs.length).map fun i => dA bs i) = bs := by
  apply List.ext_getElem
  · simp [tx]
  · intro i h1 h2
    have hm := numB_all h bs[i] (List.getElem_mem h2)
    simp only [tx, List.map_map, List.getElem_map, List.getElem_range, Function.comp]
    unfold dA
    rw [List.getD_eq_getElem?_getD, List.getElem?_eq_getElem h2, Option.getD_some]
    apply UInt8.toNat_inj.1
    rw [UInt8.toNat_ofNat']
    omega
theorem dvd_dv (s : ByteArray) (d : Int) (h : dvN s d ≠ 0) : dvdS (dvF s.data.toList d) (dvN s d) d = s := by
  obtain ⟨hn, h1, h2, e, hw, hok⟩ := dv_ok s d h
  have hl := numB_len hn
  rw [str_len] at hl
  rw [(rs_yes hok).2.2, e, (plS_col (by omega) (by omega)).1]
  have e2 : colL (dvF s.data.toList d) 1 s.size = (List.range s.data.toList.length).map fun i => dA s.data.toList i := by rw [str_len]; rfl
  rw [e2, tx_digits hn, trimZ_num_self hn, bStr_of]

end Go.Proofs.YtfmfjbphflkhiaaDoor
