/- The walks of plain, and of what strikes noughts. -/
import Derived.Test.YtfhefngpeknhlabDgt
import Derived.Test.YtfhefngpeknhlabNumW
import Derived.Test.YtfhefngpeknhlabInts
namespace Go.Proofs.Ytfhefngpeknhlab
set_option linter.unusedVariables false
set_option linter.unusedSimpArgs false
open Go.RowKit

theorem extract_list (s : ByteArray) : (s.extract 1 s.size).data.toList = s.data.toList.tail := by
  rw [ByteArray.data_extract, Array.toList_extract]
  show List.take (s.data.size - 1) (List.drop 1 s.data.toList) = s.data.toList.tail
  rw [List.drop_one, List.take_of_length_le (by simp)]
theorem extract_size (s : ByteArray) : (s.extract 1 s.size).size = s.size - 1 := by
  have := congrArg List.length (extract_list s)
  rw [str_len] at this
  rw [this, List.length_tail, str_len]
theorem list_head (c : ByteArray) (h : 0 < c.size) : c.data.toList = c[0] :: c.data.toList.tail := by
  have h1 := str_at c 0 h
  cases hc : c.data.toList with
  | nil => have := str_len c; rw [hc] at this; simp at this; omega
  | cons a r => rw [hc] at h1; simp at h1; rw [h1]; rfl
theorem trim0_step (c : ByteArray) (h : 0 < c.size) (h48 : c[0].toNat = 48) : trim0 (c.extract 1 c.size).data.toList = trim0 c.data.toList := by
  rw [extract_list]
  have e : c[0] = 48 := UInt8.toNat_inj.1 h48
  conv => rhs; rw [list_head c h, e]
  rfl
theorem trim0_stop (c : ByteArray) (h : 0 < c.size) (h48 : c[0].toNat ≠ 48) : trim0 c.data.toList = c.data.toList := by
  have e : (c[0] == 48) = false := by
    rw [beq_eq_false_iff_ne]
    intro e
    exact h48 (by rw [e]; rfl)
  rw [list_head c h]
  simp [trim0, List.dropWhile, e]
theorem trim0_end (c : ByteArray) (h : c.size = 0) : trim0 c.data.toList = c.data.toList := by
  have : c.data.toList = [] := List.eq_nil_of_length_eq_zero (by rw [str_len]; exact h)
  rw [this]; rfl
theorem trimL_step (c : ByteArray) (h : 1 < c.size) (h48 : c[0].toNat = 48) : trimL (c.extract 1 c.size).data.toList = trimL c.data.toList := by
  rw [extract_list]
  have e : c[0] = 48 := UInt8.toNat_inj.1 h48
  have hl := str_len c
  conv => rhs; rw [list_head c (by omega), e]
  cases hc : c.data.toList.tail with
  | nil => have := congrArg List.length hc; rw [List.length_tail] at this; simp at this; omega
  | cons a r => rfl
theorem trimL_stop (c : ByteArray) (h48 : c.size ≤ 1 ∨ ∃ h : 0 < c.size, c[0].toNat ≠ 48) : trimL c.data.toList = c.data.toList := by
  have hl := str_len c
  cases hc : c.data.toList with
  | nil => rfl
  | cons a r =>
    cases r with
    | nil => rfl
    | cons b r =>
      rcases h48 with h | ⟨h, h48⟩
      · rw [hc] at hl; simp at hl; omega
      · have h1 := str_at c 0 h
        rw [hc] at h1
        simp at h1
        have : a ≠ 48 := fun e => h48 (by rw [← h1, e]; rfl)
        simp [trimL, this]

end Go.Proofs.Ytfhefngpeknhlab
