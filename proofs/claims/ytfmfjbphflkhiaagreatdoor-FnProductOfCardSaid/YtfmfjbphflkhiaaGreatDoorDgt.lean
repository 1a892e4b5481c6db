/- Plain law, no program in sight: the text of digits, noughts ahead struck. -/
import Derived.Test.YtfmfjbphflkhiaaGreatDoorNum
namespace Go.Proofs.YtfmfjbphflkhiaaGreatDoor
set_option linter.unusedVariables false
set_option linter.unusedSimpArgs false

/-- The bytes of digits. -/
def tx (ds : List Int) : List UInt8 := ds.map fun d => UInt8.ofNat (48 + d.toNat)
def bStr (l : List UInt8) : ByteArray := ⟨l.toArray⟩
theorem bStr_list (l : List UInt8) : (bStr l).data.toList = l := by simp [bStr]
theorem bStr_size (l : List UInt8) : (bStr l).size = l.length := by simp [bStr, ByteArray.size]
theorem bStr_of (s : ByteArray) : bStr s.data.toList = s := by simp [bStr]
theorem bStr_append (a b : List UInt8) : bStr (a ++ b) = bStr a ++ bStr b := by
  apply ByteArray.ext
  simp [bStr]
/-- Noughts ahead struck, all of them. -/
def trim0 (bs : List UInt8) : List UInt8 := bs.dropWhile fun b => b == 48
/-- .. and a nought if nothing is left. -/
def trimZ (bs : List UInt8) : List UInt8 := if trim0 bs = [] then [48] else trim0 bs
/-- Noughts ahead struck as long as there is more than one byte. -/
def trimL : List UInt8 → List UInt8
  | b :: c :: r => if b = 48 then trimL (c :: r) else b :: c :: r
  | r => r
theorem trimL_eq : ∀ (bs : List UInt8), bs ≠ [] → (∀ b ∈ bs, isD b = true) → trimL bs = trimZ bs
  | [], h, _ => absurd rfl h
  | [b], _, _ => by
    unfold trimL trimZ trim0
    by_cases hb : b = 48
    · subst hb; rfl
    · have : (b == 48) = false := by simpa using hb
      simp [List.dropWhile, this]
  | b :: c :: r, _, hd => by
    unfold trimL
    by_cases hb : b = 48
    · subst hb
      rw [if_pos rfl, trimL_eq (c :: r) (by simp) (fun x hx => hd x (List.mem_cons_of_mem _ hx))]
      rfl
    · have : (b == 48) = false := by simpa using hb
      rw [if_neg hb]
      simp [trimZ, trim0, List.dropWhile, this]
theorem tx_length (ds : List Int) : (tx ds).length = ds.length := by simp [tx]
theorem tx_append (a b : List Int) : tx (a ++ b) = tx a ++ tx b := by simp [tx]
theorem tx_mem {ds : List Int} (h : ∀ d ∈ ds, 0 ≤ d ∧ d ≤ 9) : ∀ b ∈ tx ds, isD b = true := by
  intro b hb
  simp only [tx, List.mem_map] at hb
  obtain ⟨d, hd, rfl⟩ := hb
  have := h d hd
  have e : (UInt8.ofNat (48 + d.toNat)).toNat = 48 + d.toNat := by rw [UInt8.toNat_ofNat']; omega
  simp [isD, e]; omega
theorem isD_iff (b : UInt8) : isD b = true ↔ 48 ≤ b.toNat ∧ b.toNat ≤ 57 := by simp [isD]
theorem trim0_mem {bs : List UInt8} {b : UInt8} (h : b ∈ trim0 bs) : b ∈ bs := (List.dropWhile_sublist _).subset h
theorem trim0_length (bs : List UInt8) : (trim0 bs).length ≤ bs.length := (List.dropWhile_sublist _).length_le
theorem trim0_head {bs : List UInt8} (h : trim0 bs ≠ []) : (trim0 bs).headD 0 ≠ 48 := by
  have := List.head_dropWhile_not (fun b : UInt8 => b == 48) (l := bs) h
  unfold trim0 at *
  cases hh : List.dropWhile (fun b : UInt8 => b == 48) bs with
  | nil => exact absurd hh h
  | cons a r => simp [hh] at this; simpa using this
/-- What is struck so is a numeral if it is not too long. -/
theorem trimZ_num {bs : List UInt8} (h : ∀ b ∈ bs, isD b = true) : numB (trimZ bs) = decide ((trimZ bs).length ≤ 9) := by
  unfold trimZ
  split
  · rfl
  · rename_i hne
    by_cases hl : (trim0 bs).length ≤ 9
    · rw [decide_eq_true hl]
      refine numB_mk (fun b hb => (isD_iff b).1 (h b (trim0_mem hb))) ?_ hl (.inl (trim0_head hne))
      exact List.length_pos_iff.2 hne
    · rw [decide_eq_false hl]
      cases e : numB (trim0 bs) with
      | false => rfl
      | true => exact absurd (numB_len e).2 hl
theorem trimZ_length (bs : List UInt8) (h : bs ≠ []) : (trimZ bs).length ≤ bs.length := by
  unfold trimZ
  split
  · exact List.length_pos_iff.2 h
  · exact trim0_length bs
/-- What plain says: the text, or none. -/
def plS (ds : List Int) : ByteArray := if ds ≠ [] ∧ (trimZ (tx ds)).length ≤ 9 then bStr (trimZ (tx ds)) else ByteArray.empty
def plB (ds : List Int) : Bool := decide (ds ≠ [] ∧ (trimZ (tx ds)).length ≤ 9)
theorem plB_short {ds : List Int} (h : ds ≠ []) (hl : ds.length ≤ 9) : plB ds = true := by
  have := trimZ_length (tx ds) (by simpa [tx] using h)
  rw [tx_length] at this
  simp [plB, h]; omega
theorem plS_short {ds : List Int} (h : ds ≠ []) (hl : ds.length ≤ 9) : plS ds = bStr (trimZ (tx ds)) := by
  have := trimZ_length (tx ds) (by simpa [tx] using h)
  rw [tx_length] at this
  exact if_pos ⟨h, by omega⟩
theorem plS_size (ds : List Int) : (plS ds).size ≤ 9 := by
  unfold plS
  split
  · rename_i h; rw [bStr_size]; exact h.2
  · decide
theorem plS_num {ds : List Int} (h : ∀ d ∈ ds, 0 ≤ d ∧ d ≤ 9) (hb : plB ds = true) : numB (plS ds).data.toList = true := by
  have hb' : ds ≠ [] ∧ (trimZ (tx ds)).length ≤ 9 := by simpa [plB] using hb
  unfold plS
  rw [if_pos hb', bStr_list, trimZ_num (tx_mem h)]
  simpa using hb'.2
end Go.Proofs.YtfmfjbphflkhiaaGreatDoor
