/- Lists of texts, and the laws' own helpers on them. -/
import Derived.Test.YtfhefngpeknhlaaDoorStrs
import Derived.Test.YtfhefngpeknhlaaDoorInts
import Derived.Deep.RegionHeld3
import Derived.BigQuiet
import Derived.Lib.ItoaNum
namespace Go.Proofs.YtfhefngpeknhlaaDoor
set_option linter.unusedVariables false
set_option linter.unusedSimpArgs false
open Go.RowKit

/-- A row of one-cell elements. -/
def rowV (V : Nat → Value) (n : Nat) : List Value := (List.range n).map V
theorem rowV_length (V : Nat → Value) (n : Nat) : (rowV V n).length = n := by simp [rowV]
theorem rowV_at (V : Nat → Value) {n i : Nat} (h : i < n) : (rowV V n)[i]? = some (V i) := by simp [rowV, h]
theorem rowV_succ (V : Nat → Value) (n : Nat) : rowV V (n + 1) = rowV V n ++ [V n] := by simp [rowV, List.range_succ]
theorem rowV_zero (V : Nat → Value) : rowV V 0 = [] := rfl
theorem rowV_congr {V U : Nat → Value} {n : Nat} (h : ∀ i, i < n → V i = U i) : rowV V n = rowV U n := by
  unfold rowV
  exact List.map_congr_left fun i hi => h i (by simpa using hi)
def mixV (V U : Nat → Value) (k i : Nat) : Value := if i < k then V i else U i
theorem mixV_zero (V U : Nat → Value) (n : Nat) : rowV (mixV V U 0) n = rowV U n := rowV_congr fun i _ => by simp [mixV]
theorem mixV_all (V U : Nat → Value) (n : Nat) : rowV (mixV V U n) n = rowV V n := rowV_congr fun i hi => by simp [mixV, hi]
theorem mixV_set (V U : Nat → Value) {n i : Nat} (h : i < n) : (rowV (mixV V U i) n).set i (V i) = rowV (mixV V U (i + 1)) n := by
  apply List.ext_getElem?
  intro j
  by_cases hj : j < n
  · rw [rowV_at _ hj]
    by_cases e : i = j
    · subst e
      rw [List.getElem?_set_self (by rw [rowV_length]; exact h)]
      simp [mixV]
    · rw [List.getElem?_set_ne e, rowV_at _ hj]
      have : (j < i) ↔ (j < i + 1) := by omega
      simp [mixV, this]
  · rw [List.getElem?_eq_none (by rw [List.length_set, rowV_length]; omega), List.getElem?_eq_none (by rw [rowV_length]; omega)]
theorem Sl.of_ownV {w : World} {base : Nat} {e : TypeId} {v : Value} {n : Nat} {V : Nat → Value} (h : Own w base e 1 v n (rowV V n)) : Sl w w.heap.size n v n V := by
  have h1 := Sl.of_own h
  rw [Nat.mul_one] at h1
  exact h1.congr fun j hj => by
    show (rowV V n).getD j undef = _
    rw [List.getD_eq_getElem?_getD, rowV_at V hj]; rfl
def TV (f : Nat → ByteArray) : Nat → Value := fun i => .string (f i)

theorem infoStr : (Tryd.prog.info? 9).map (fun i => (i.zero, i.size, i.bytes)) = some (some (.string ByteArray.empty), 1, 16) := by kernel_rfl


/-- A mark's text. -/
def mt (k : Nat) : ByteArray := bStr (109 :: Lib.decDigits k)
theorem dd_len (n : Nat) : (Lib.decDigits n).length ≤ n + 1 := by
  induction n using Nat.strongRecOn with
  | ind n ih =>
    unfold Lib.decDigits
    by_cases h : n < 10
    · rw [dif_pos h]; simp
    · rw [dif_neg h]
      have := ih (n / 10) (by omega)
      rw [List.length_append]
      simp only [List.length_cons, List.length_nil]
      omega
theorem dd_small {n : Nat} (h : n < 10) : Lib.decDigits n = [UInt8.ofNat (48 + n % 10)] := by
  unfold Lib.decDigits
  rw [dif_pos h, Nat.mod_eq_of_lt h]
theorem dd_big {n : Nat} (h : ¬ n < 10) : Lib.decDigits n = Lib.decDigits (n / 10) ++ [UInt8.ofNat (48 + n % 10)] := by
  rw [Lib.decDigits, dif_neg h]
/-- How far a number's text is. -/
def MR (n k : Nat) (c : ByteArray) : Prop := (0 < k → Lib.decDigits k ++ c.data.toList = Lib.decDigits n) ∧ (k = 0 → c.data.toList = Lib.decDigits n)
theorem MR.step {n k : Nat} {c : ByteArray} (h : MR n k c) (hk : 0 < k) : MR n (k / 10) (dStr (k % 10) ++ c) := by
  have h1 := h.1 hk
  have e : (dStr (k % 10) ++ c).data.toList = UInt8.ofNat (48 + k % 10) :: c.data.toList := by simp [dStr]
  refine ⟨fun h0 => ?_, fun h0 => ?_⟩
  · rw [e, ← h1, dd_big (show ¬ k < 10 by omega)]
    simp
  · rw [e, ← h1, dd_small (show k < 10 by omega)]
    rfl
theorem MR.size {n k : Nat} {c : ByteArray} (h : MR n k c) : c.size ≤ n + 1 := by
  rw [← str_len]
  have hd := dd_len n
  by_cases hk : 0 < k
  · have := congrArg List.length (h.1 hk)
    rw [List.length_append] at this
    omega
  · rw [h.2 (by omega)]; exact hd
set_option maxRecDepth 20000 in
set_option maxHeartbeats 2000000 in
theorem markText_any (n : Nat) (h0 : 0 < n) (h1 : n ≤ 10000000) (w : World) : Calls Tryd.prog 71 #[.int .i64 n] w fun e w' => e = .returned (.string (mt n)) ∧ Below w.heap.size w w' := by
  go_enter Tryd.func71, Tryd.ntmps71
  go_wp2_with fail
  go_loopg [0, 3] n (fun g s0 s3 wr => ∃ k : Nat, ∃ c : ByteArray, g = k ∧ k ≤ n ∧ s0 = .int .i64 k ∧ s3 = .string c ∧ Hid (MR n k c) ∧ Below w.heap.size w wr)
  case atStart => exact ⟨n, ByteArray.empty, rfl, Nat.le_refl _, rfl, rfl, Lib.hid ⟨fun _ => by rw [show ByteArray.empty.data.toList = [] from rfl, List.append_nil], fun h => by omega⟩, Below.refl _ _⟩
  case round =>
    obtain ⟨k, c, hgk, hkn, rfl, rfl, HM, hB⟩ := hrel
    subst hgk
    have hsz := HM.out.size
    by_cases hk : 0 < gk
    · have HN := Lib.hid (HM.out.step hk)
      obtain ⟨d, hd⟩ : ∃ d, gk % 10 = d := ⟨_, rfl⟩
      obtain ⟨q, hq⟩ : ∃ q, gk / 10 = q := ⟨_, rfl⟩
      have kd : (gk : Int) % 10 = (d : Int) := by omega
      have kq : (gk : Int) / 10 = (q : Int) := by omega
      have hd9 : d ≤ 9 := by omega
      have hqk : q < gk := by omega
      rw [hd, hq] at HN
      have hc := conv_dig wr d hd9 5 (0, 0)
      have hds1 : (dStr d).size = 1 := rfl
      generalize dStr d = ds at *
      clear hd hq
      go_wp2_with fail
      go_roundg q
      case measure => omega
      case rel => exact ⟨q, ds ++ c, rfl, by omega, by go_num, rfl, HN, hB.alloc hB.size _⟩
    · obtain rfl : gk = 0 := by omega
      have HE := Lib.hid (HM.out.2 rfl)
      go_wp2_with fail
      go_ret
      exact ⟨by
        have : mt n = ⟨#[109]⟩ ++ c := by
          unfold mt
          rw [show (109 :: Lib.decDigits n) = [109] ++ Lib.decDigits n from rfl, bStr_append, ← HE.out, bStr_of]
          rfl
        rw [this]; rfl, hB⟩

end Go.Proofs.YtfhefngpeknhlaaDoor
