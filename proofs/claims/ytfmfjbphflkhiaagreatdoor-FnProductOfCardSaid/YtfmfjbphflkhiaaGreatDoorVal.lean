/- The walk of ValueOf: strconv.Atoi at a numeral. -/
import Derived.Test.YtfmfjbphflkhiaaGreatDoorNumW
import Derived.Laws.IdiomStrings
namespace Go.Proofs.YtfmfjbphflkhiaaGreatDoor
set_option linter.unusedVariables false
set_option linter.unusedSimpArgs false
open Go.RowKit

theorem valF_snoc : ∀ (l : List UInt8) (b : UInt8) (n : Int), valF (l ++ [b]) n = 10 * valF l n + ((b.toNat : Int) - 48)
  | [], _, _ => rfl
  | a :: l, b, n => by
    show valF (l ++ [b]) _ = _
    rw [valF_snoc l b]; rfl
theorem val_F (l : List UInt8) : val l = valF l 0 := by
  have := valF_eq l 0
  rw [Int.mul_zero, Int.zero_add] at this
  exact this.symm
theorem valF_take (s : ByteArray) (k : Nat) (h : k < s.size) : valF (s.data.toList.take (k + 1)) 0 = 10 * valF (s.data.toList.take k) 0 + ((s[k].toNat : Int) - 48) := by
  have hk : k < s.data.toList.length := by rw [str_len]; exact h
  rw [← List.take_append_getElem hk, valF_snoc]
  have := str_at s k h
  rw [List.getD_eq_getElem?_getD, List.getElem?_eq_getElem hk, Option.getD_some] at this
  rw [this]
theorem valF_bound (s : ByteArray) (hn : numB s.data.toList = true) (k : Nat) (hk : k ≤ s.size) : 0 ≤ valF (s.data.toList.take k) 0 ∧ valF (s.data.toList.take k) 0 < 10 ^ k := by
  have h1 := val_range (l := s.data.toList.take k) (fun b hb => numB_all hn b (List.mem_of_mem_take hb))
  rw [val_F, List.length_take, str_len, Nat.min_eq_left hk] at h1
  exact h1
theorem pow_small (k : Nat) (h : k ≤ 9) : (10 : Int) ^ k ≤ 1000000000 := by
  match k, h with
  | 0, _ => decide
  | 1, _ => decide
  | 2, _ => decide
  | 3, _ => decide
  | 4, _ => decide
  | 5, _ => decide
  | 6, _ => decide
  | 7, _ => decide
  | 8, _ => decide
  | 9, _ => decide

set_option maxRecDepth 20000 in
set_option maxHeartbeats 2000000 in
theorem atoi_num (s : ByteArray) (hn : numB s.data.toList = true) (w : World) :
    Calls Tryz.prog 45 #[.string s] w fun e w' => e = .returned (.tuple #[.int .i64 (val s.data.toList), .nilIface]) ∧ Below w.heap.size w w' := by
  have hl := numB_len hn
  rw [str_len] at hl
  obtain ⟨l1, l2⟩ := hl
  have hall := Lib.hid fun k (h : k < s.size) => numB_all hn _ (str_mem s k h)
  have h00 := hall.out 0 (by omega)
  have HB := Lib.hid (valF_bound s hn)
  have HS := Lib.hid (valF_take s)
  have HV := Lib.hid (show val s.data.toList = valF (s.data.toList.take s.size) 0 by rw [val_F, List.take_of_length_le (by rw [str_len]; omega)])
  have hc := run_bytes_of_string (P := Tryz.prog) w 9 22 5 s Tryz.underlying9 Tryz.underlying22 Tryz.underlying5
  generalize grownCap w s.size 0 5 = cap at hc
  have HR := Lib.hid (bytesRow_at s cap)
  generalize hrow : bytesRow s cap = row at *
  obtain ⟨hd1, hd2⟩ := h00
  have b45 : ((s[0].toNat : Int) == 45) = false := by rw [beq_eq_false_iff_ne]; omega
  have b43 : ((s[0].toNat : Int) == 43) = false := by rw [beq_eq_false_iff_ne]; omega
  clear hn hrow
  go_enter Tryz.func45, Tryz.ntmps45
  go_wp2_with fail
  go_loopg [6, 8, 49] s.size (fun g s6 s8 s49 wr => ∃ k : Nat, ∃ n : Int, g + k = s.size ∧ s49 = .int .i64 k ∧ s6 = .int .i64 n ∧ Hid (n = valF (s.data.toList.take k) 0) ∧ wr = w.drew.alloc (.cells row 5 (row.size, row.size + 1)))
  case atStart => exact ⟨0, 0, rfl, rfl, rfl, Lib.hid rfl, rfl⟩
  case round =>
    obtain ⟨k, n, hk, rfl, rfl, HN, rfl⟩ := hrel
    by_cases hlt : k < s.size
    · have hb := HB.out k (by omega)
      have hp := pow_small k (by omega)
      rw [← HN.out] at hb
      obtain ⟨n0, n1⟩ := hb
      have n1' : n < 1000000000 := by omega
      have hx := hall.out k hlt
      have hst := Lib.hid (HS.out k hlt)
      rw [← HN.out] at hst
      have e1 : (w.alloc (.cells row 5 (row.size, row.size + 1))).cell? ⟨w.heap.size, k, none⟩ = some (.int .u8 (s[k].toNat : Int)) := (World.cell?_alloc_mark w row 5 (row.size, row.size + 1) k).trans (HR.out k hlt)
      obtain ⟨hx1, hx2⟩ := hx
      clear n1 hp
      go_wp2_with fail
      go_roundg (gk - 1)
      case measure => omega
      case rel => exact ⟨k + 1, n * 10 + ((s[k].toNat : Int) - 48), by omega, by go_num, rfl, Lib.hid (by rw [hst.out]; omega), rfl⟩
    · obtain rfl : k = s.size := by omega
      go_wp2_with fail
      go_ret2
      exact ⟨by rw [HV.out, ← HN.out]; rfl, ((Below.refl _ _).drew).alloc (Nat.le_refl _) _⟩

set_option maxRecDepth 20000 in
set_option maxHeartbeats 2000000 in
theorem atoi_pub (s : ByteArray) (hn : numB s.data.toList = true) (w : World) :
    Calls Tryz.prog 28 #[.string s] w fun e w' => e = .returned (.tuple #[.int .i64 (val s.data.toList), .nilIface]) ∧ Below w.heap.size w w' := by
  have HA := Lib.hid fun W => atoi_num s hn W
  clear hn
  generalize val s.data.toList = v at *
  go_enter Tryz.func28, Tryz.ntmps28
  go_wp2_with fail
  refine (HA.out _).mono ?_
  rintro e w1 ⟨rfl, b1⟩
  go_wp2_with fail
  go_ret2
  exact ⟨rfl, b1⟩
def valO (bs : List UInt8) : Int := if numB bs = true then val bs else -1
set_option maxRecDepth 20000 in
theorem value_any (s : ByteArray) (hs : s.size ≤ maxLen) (w : World) :
    Calls Tryz.prog 10 #[.string s] w fun e w' => e = .returned (.int .i64 (valO s.data.toList)) ∧ Below w.heap.size w w' := by
  have HN := Lib.hid fun W => iNum s hs W
  cases h : numB s.data.toList with
  | false =>
    have HV := Lib.hid (show valO s.data.toList = -1 by unfold valO; rw [h]; rfl)
    rw [h] at HN
    clear h hs
    go_enter Tryz.func10, Tryz.ntmps10
    go_wp2_with fail
    refine (HN.out _).mono ?_
    rintro e w1 ⟨rfl, rfl⟩
    go_wp2_with fail
    go_ret
    exact ⟨by rw [HV.out]; rfl, Below.refl _ _⟩
  | true =>
    have HV := Lib.hid (show valO s.data.toList = val s.data.toList by unfold valO; rw [h]; rfl)
    have HA := Lib.hid fun W => atoi_pub s h W
    rw [h] at HN
    clear h hs
    go_enter Tryz.func10, Tryz.ntmps10
    go_wp2_with fail
    refine (HN.out _).mono ?_
    rintro e w1 ⟨rfl, rfl⟩
    go_wp2_with fail
    refine (HA.out _).mono ?_
    rintro e w1 ⟨rfl, b1⟩
    go_wp2_with fail
    go_ret
    exact ⟨by rw [HV.out]; rfl, b1⟩
end Go.Proofs.YtfmfjbphflkhiaaGreatDoor
