/- The walks of adding: AddedOf, WrongColumn, WrittenOf, SumOf, of the program and of the reference, at numerals. -/
import Derived.Test.YtfmfjbphflkhiaaGreatDoorAddP
import Derived.Test.YtfmfjbphflkhiaaGreatDoorRowR
namespace Go.Proofs.YtfmfjbphflkhiaaGreatDoor
set_option linter.unusedVariables false
set_option linter.unusedSimpArgs false
open Go.RowKit

def addRight (F : Nat → Nat → Int) (n : Nat) : Prop := 1 ≤ n ∧ n ≤ 9 ∧ ∀ i, i < n → addOk F i
theorem addRight_dig {F : Nat → Nat → Int} {n : Nat} (h : addRight F n) : ∀ i, i < n → (0 ≤ F i 3 ∧ F i 3 ≤ 9) ∧ (0 ≤ F i 4 ∧ F i 4 ≤ 9) := fun i hi => by
  obtain ⟨_, _, _, _, h3, h4, _⟩ := h.2.2 i hi
  exact ⟨h3, by omega⟩
def maxN (a b : ByteArray) (m : Nat) : Prop := (a.size ≤ b.size ∧ m = b.size) ∨ (b.size ≤ a.size ∧ m = a.size)
theorem maxN_is (a b : ByteArray) : maxN a b (adN a.data.toList b.data.toList) := by
  unfold maxN adN
  rw [str_len, str_len]
  omega
theorem add_is_right {a b : ByteArray} (ha : numB a.data.toList = true) (hb : numB b.data.toList = true) : addRight (addF a.data.toList b.data.toList) (adN a.data.toList b.data.toList) := by
  have h1 := numB_len ha
  have h2 := numB_len hb
  refine ⟨by unfold adN; omega, by unfold adN; omega, fun i _ => add_right (fun k => dg_range (numB_all ha) k) (fun k => dg_range (numB_all hb) k) i⟩

set_option maxRecDepth 20000 in
set_option maxHeartbeats 4000000 in
theorem iAddedOf (a b : ByteArray) (ha : numB a.data.toList = true) (hb : numB b.data.toList = true) (m : Nat) (hm : maxN a b m) (w : World) :
    Calls Tryz.prog 68 #[.string a, .string b] w fun e w' => ∃ v, e = .returned v ∧ Own w' w.heap.size 58 5 v m (recCells 5 (IV (addF a.data.toList b.data.toList)) m) ∧ Below w.heap.size w w' := by
  have hla := numB_len ha
  have hlb := numB_len hb
  rw [str_len] at hla hlb
  obtain ⟨la1, la9⟩ := hla
  obtain ⟨lb1, lb9⟩ := hlb
  have hsa : a.size ≤ maxLen := by unfold maxLen; omega
  have hsb : b.size ≤ maxLen := by unfold maxLen; omega
  have IDa := Lib.hid fun k W => iDigit a hsa ha k W
  have IDb := Lib.hid fun k W => iDigit b hsb hb k W
  have Ra := Lib.hid fun k => dg_range (numB_all ha) k
  have Rb := Lib.hid fun k => dg_range (numB_all hb) k
  have RC := Lib.hid fun k => addC_range (a := a.data.toList) (b := b.data.toList) (fun k => dg_range (numB_all ha) k) (fun k => dg_range (numB_all hb) k) k
  have HNa := Lib.hid fun W => iNum a hsa W
  have HNb := Lib.hid fun W => iNum b hsb W
  rw [ha] at HNa
  rw [hb] at HNb
  obtain ⟨i0, hi, hz0, hz1, hz2⟩ := info_parts infoColR
  have HTF := Lib.hid fun k => recCells5_succ (addF a.data.toList b.data.toList) k
  clear ha hb hsa hsb
  have hm9 : m ≤ 9 := by unfold maxN at hm; omega
  unfold maxN at hm
  rcases hm with ⟨hab, hm⟩ | ⟨hab, hm⟩ <;> (
    have habi : ((if a.size ≤ b.size then 0 else 0 : Nat) : Int) = 0 := by split <;> rfl
    clear habi
    go_enter Tryz.func68, Tryz.ntmps68
    go_wp2_with fail
    refine (HNa.out _).mono ?_
    rintro e w' ⟨rfl, rfl⟩
    go_wp2_with fail
    refine (HNb.out _).mono ?_
    rintro e w' ⟨rfl, rfl⟩
    go_wp2_with fail
    go_loopg [5, 6, 7, 8, 9, 10, 24] m (fun g s5 s6 s7 s8 s9 s10 s24 wr => ∃ k : Nat, ∃ c : Int, g + k = m ∧ s24 = .int .i64 k ∧ s6 = .int .i64 c ∧ Hid (c = addC a.data.toList b.data.toList k) ∧ wr.ownsRow w.heap.size 58 5 s5 k (recCells 5 (IV (addF a.data.toList b.data.toList)) k) ∧ Below w.heap.size w wr)
    case atStart => exact ⟨0, 0, by omega, rfl, rfl, Lib.hid rfl, by rw [recCells_zero]; exact World.ownsRow_nil w _ _ _, Below.refl _ _⟩
    obtain ⟨k, c, hk, rfl, rfl, HC, hown, hB⟩ := hrel
    by_cases hlt : k < m
    · have ra := Ra.out k
      have rb := Rb.out k
      have rc := RC.out k
      rw [← HC.out] at rc
      have hT := HTF.out k
      have e0 : addF a.data.toList b.data.toList k 0 = dg a.data.toList k := rfl
      have e1 : addF a.data.toList b.data.toList k 1 = dg b.data.toList k := rfl
      have e2 : addF a.data.toList b.data.toList k 2 = addC a.data.toList b.data.toList k := rfl
      have e3 : addF a.data.toList b.data.toList k 3 = (dg a.data.toList k + dg b.data.toList k + addC a.data.toList b.data.toList k) % 10 := rfl
      have e4 : addF a.data.toList b.data.toList k 4 = (dg a.data.toList k + dg b.data.toList k + addC a.data.toList b.data.toList k) / 10 := rfl
      rw [e0, e1, e2, e3, e4, ← HC.out] at hT
      have HT := Lib.hid hT
      have HC2 := Lib.hid (show addC a.data.toList b.data.toList (k + 1) = (dg a.data.toList k + dg b.data.toList k + addC a.data.toList b.data.toList k) / 10 from rfl)
      rw [← HC.out] at HC2
      have hki1 : (k : Int) < (a.size : Int) ∨ (k : Int) < (b.size : Int) := by omega
      have hki2 : (a.size : Int) ≤ (b.size : Int) ∨ (b.size : Int) ≤ (a.size : Int) := by omega
      have hkm : (k : Int) < (m : Int) := by omega
      clear hT e0 e1 e2 e3 e4
      have HOwn := Lib.hid hown
      have HBel := Lib.hid hB
      clear hown hB
      have IDak := Lib.hid (IDa.out k)
      have IDbk := Lib.hid (IDb.out k)
      generalize dg a.data.toList k = x at *
      generalize dg b.data.toList k = y at *
      obtain ⟨x0, x9⟩ := ra
      obtain ⟨y0, y9⟩ := rb
      obtain ⟨c0, c9⟩ := rc
      go_wp2_with fail
      refine (IDak.out _).mono ?_
      rintro e w' ⟨rfl, rfl⟩
      go_wp2_with fail
      refine (IDbk.out _).mono ?_
      rintro e w' ⟨rfl, rfl⟩
      go_wp2_with (at_builtin; refine wpList_append_own _ rfl _ _ 40 rfl w.heap.size 58 i0 _ 5 40 Tryz.underlying40 hi hz0 hz1 hz2 rfl (by decide) _ _ _ rfl (HOwn.out.alloc _) ⟨wr.heap.size, 0, none⟩ 1 1 [.int .i64 x, .int .i64 y, .int .i64 c, .int .i64 ((x + y + c) % 10), .int .i64 ((x + y + c) / 10)] rfl rfl (cells_in _ _ _ _ _ rfl rfl) (by simp [Value.oneCell']) (by unfold maxLen; omega) (by omega) (by have := HBel.out.size; simp; omega) ?_; intro v' w2 hown' hgrow _)
      have hB2 := (HBel.out.alloc HBel.out.size (.cells #[.int .i64 x, .int .i64 y, .int .i64 c, .int .i64 ((x + y + c) % 10), .int .i64 ((x + y + c) / 10)] 58)).grown hgrow (by have := HBel.out.size; simp; omega) (fun j hj => (HOwn.out.lt j hj).1)
      go_roundg (gk - 1)
      case measure => omega
      case rel => exact ⟨k + 1, (x + y + c) / 10, by omega, by go_num, rfl, Lib.hid HC2.out.symm, by rw [HT.out]; exact hown', hB2⟩
    · have hkm : k = m := by omega
      have hki2 : (a.size : Int) ≤ (k : Int) ∧ (b.size : Int) ≤ (k : Int) := by omega
      obtain ⟨hki3, hki4⟩ := hki2
      rw [hkm] at hown
      go_wp2_with fail
      refine (clipRow _ _ _ _ _ (Own.of_row hown)).mono ?_
      rintro e w2 ⟨v', rfl, ho', rfl⟩
      go_wp2_with fail
      go_ret
      exact ⟨_, rfl, ho', hB⟩)

set_option maxRecDepth 20000 in
set_option maxHeartbeats 4000000 in
theorem sAddedOf (a b : ByteArray) (ha : numB a.data.toList = true) (hb : numB b.data.toList = true) (m : Nat) (hm : maxN a b m) (w : World) :
    Calls Tryz.prog 70 #[.string a, .string b] w fun e w' => ∃ v, e = .returned v ∧ Own w' w.heap.size 58 5 v m (recCells 5 (IV (addF a.data.toList b.data.toList)) m) ∧ Below w.heap.size w w' := by
  have hla := numB_len ha
  have hlb := numB_len hb
  rw [str_len] at hla hlb
  obtain ⟨la1, la9⟩ := hla
  obtain ⟨lb1, lb9⟩ := hlb
  have hsa : a.size ≤ maxLen := by unfold maxLen; omega
  have hsb : b.size ≤ maxLen := by unfold maxLen; omega
  have IDa := Lib.hid fun k W => sDigit a hsa ha k W
  have IDb := Lib.hid fun k W => sDigit b hsb hb k W
  have Ra := Lib.hid fun k => dg_range (numB_all ha) k
  have Rb := Lib.hid fun k => dg_range (numB_all hb) k
  have RC := Lib.hid fun k => addC_range (a := a.data.toList) (b := b.data.toList) (fun k => dg_range (numB_all ha) k) (fun k => dg_range (numB_all hb) k) k
  have HNa := Lib.hid fun W => sNum a hsa W
  have HNb := Lib.hid fun W => sNum b hsb W
  rw [ha] at HNa
  rw [hb] at HNb
  obtain ⟨i0, hi, hz0, hz1, hz2⟩ := info_parts infoColR
  have HTF := Lib.hid fun k => recCells5_succ (addF a.data.toList b.data.toList) k
  have hbel := (Below.refl w.heap.size w).alloc (Nat.le_refl _) (.cells #[] 58)
  have hown0 := owns_new w w.heap.size 58 5 0 #[] (Nat.le_refl _) (by decide) rfl
  clear ha hb hsa hsb
  have hm9 : m ≤ 9 := by unfold maxN at hm; omega
  unfold maxN at hm
  rcases hm with ⟨hab, hm⟩ | ⟨hab, hm⟩ <;> (
    have habi : ((if a.size ≤ b.size then 0 else 0 : Nat) : Int) = 0 := by split <;> rfl
    clear habi
    go_enter Tryz.func70, Tryz.ntmps70
    go_wp2_with fail
    refine (HNa.out _).mono ?_
    rintro e w' ⟨rfl, rfl⟩
    go_wp2_with fail
    refine (HNb.out _).mono ?_
    rintro e w' ⟨rfl, rfl⟩
    go_wp2_with fail
    go_loopg [5, 6, 7, 8, 9] m (fun g s5 s6 s7 s8 s9 wr => ∃ k : Nat, ∃ c : Int, g + k = m ∧ s7 = .int .i64 k ∧ s6 = .int .i64 c ∧ Hid (c = addC a.data.toList b.data.toList k) ∧ wr.ownsRow w.heap.size 58 5 s5 k (recCells 5 (IV (addF a.data.toList b.data.toList)) k) ∧ Below w.heap.size w wr)
    case atStart => exact ⟨0, 0, by omega, rfl, rfl, Lib.hid rfl, by rw [recCells_zero]; exact hown0, hbel⟩
    obtain ⟨k, c, hk, rfl, rfl, HC, hown, hB⟩ := hrel
    by_cases hlt : k < m
    · have ra := Ra.out k
      have rb := Rb.out k
      have rc := RC.out k
      rw [← HC.out] at rc
      have hT := HTF.out k
      have e0 : addF a.data.toList b.data.toList k 0 = dg a.data.toList k := rfl
      have e1 : addF a.data.toList b.data.toList k 1 = dg b.data.toList k := rfl
      have e2 : addF a.data.toList b.data.toList k 2 = addC a.data.toList b.data.toList k := rfl
      have e3 : addF a.data.toList b.data.toList k 3 = (dg a.data.toList k + dg b.data.toList k + addC a.data.toList b.data.toList k) % 10 := rfl
      have e4 : addF a.data.toList b.data.toList k 4 = (dg a.data.toList k + dg b.data.toList k + addC a.data.toList b.data.toList k) / 10 := rfl
      rw [e0, e1, e2, e3, e4, ← HC.out] at hT
      have HT := Lib.hid hT
      have HC2 := Lib.hid (show addC a.data.toList b.data.toList (k + 1) = (dg a.data.toList k + dg b.data.toList k + addC a.data.toList b.data.toList k) / 10 from rfl)
      rw [← HC.out] at HC2
      have hki1 : (k : Int) < (a.size : Int) ∨ (k : Int) < (b.size : Int) := by omega
      have hki2 : (a.size : Int) ≤ (b.size : Int) ∨ (b.size : Int) ≤ (a.size : Int) := by omega
      have hkm : (k : Int) < (m : Int) := by omega
      clear hT e0 e1 e2 e3 e4
      have HOwn := Lib.hid hown
      have HBel := Lib.hid hB
      clear hown hB
      have IDak := Lib.hid (IDa.out k)
      have IDbk := Lib.hid (IDb.out k)
      generalize dg a.data.toList k = x at *
      generalize dg b.data.toList k = y at *
      obtain ⟨x0, x9⟩ := ra
      obtain ⟨y0, y9⟩ := rb
      obtain ⟨c0, c9⟩ := rc
      go_wp2_with fail
      refine (IDak.out _).mono ?_
      rintro e w' ⟨rfl, rfl⟩
      go_wp2_with fail
      refine (IDbk.out _).mono ?_
      rintro e w' ⟨rfl, rfl⟩
      go_wp2_with (at_builtin; refine wpList_append_own _ rfl _ _ 40 rfl w.heap.size 58 i0 _ 5 40 Tryz.underlying40 hi hz0 hz1 hz2 rfl (by decide) _ _ _ rfl ((HOwn.out.alloc _).alloc _) ⟨wr.heap.size + 1, 0, none⟩ 1 1 [.int .i64 x, .int .i64 y, .int .i64 c, .int .i64 ((x + y + c) % 10), .int .i64 ((x + y + c) / 10)] rfl rfl (cells_in _ _ _ _ _ (by simp) rfl) (by simp [Value.oneCell']) (by unfold maxLen; omega) (by omega) (by have := HBel.out.size; simp; omega) ?_; intro v' w2 hown' hgrow _)
      have hB2 := ((HBel.out.alloc HBel.out.size (.cells #[.int .i64 x, .int .i64 y, .int .i64 c, .int .i64 ((x + y + c) % 10), .int .i64 ((x + y + c) / 10)] 58)).alloc (by have := HBel.out.size; simp; omega) (.cells #[.int .i64 x, .int .i64 y, .int .i64 c, .int .i64 ((x + y + c) % 10), .int .i64 ((x + y + c) / 10)] 58)).grown hgrow (by have := HBel.out.size; simp; omega) (fun j hj => (HOwn.out.lt j hj).1)
      go_roundg (gk - 1)
      case measure => omega
      case rel => exact ⟨k + 1, (x + y + c) / 10, by omega, by go_num, rfl, Lib.hid HC2.out.symm, by rw [HT.out]; exact hown', hB2⟩
    · have hkm : k = m := by omega
      have hki2 : (a.size : Int) ≤ (k : Int) ∧ (b.size : Int) ≤ (k : Int) := by omega
      obtain ⟨hki3, hki4⟩ := hki2
      rw [hkm] at hown
      go_wp2_with fail
      go_ret
      exact ⟨_, rfl, Own.of_row hown, hB⟩)

end Go.Proofs.YtfmfjbphflkhiaaGreatDoor
