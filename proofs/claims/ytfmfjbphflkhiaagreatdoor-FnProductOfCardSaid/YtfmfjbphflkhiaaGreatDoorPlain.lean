/- The walks of plain, and of what strikes noughts. -/
import Derived.Test.YtfmfjbphflkhiaaGreatDoorDgt
import Derived.Test.YtfmfjbphflkhiaaGreatDoorNumW
import Derived.Test.YtfmfjbphflkhiaaGreatDoorBld
import Derived.Test.YtfmfjbphflkhiaaGreatDoorShelf
import Derived.Test.YtfmfjbphflkhiaaGreatDoorInts
namespace Go.Proofs.YtfmfjbphflkhiaaGreatDoor
set_option linter.unusedVariables false
set_option linter.unusedSimpArgs false
open Go.RowKit

theorem extract_list (s : ByteArray) : (s.extract 1 s.size).data.toList = s.data.toList.tail := by
  rw [ByteArray.data_extract, Array.toList_extract]
  show List.take (s.data.size - 1) (List.drop 1 s.data.toList) = s.data.toList.tail
  rw [List.drop_one, List.take_of_length_le (by simp)]
theorem extract_size (s : ByteArray) : (s.extract 1 s.size).size = s.size - 1 := by
  have := congrArg List.length (extract_list s)
  rw [str_len] at this
  rw [this, List.length_tail, str_len]
theorem list_head (c : ByteArray) (h : 0 < c.size) : c.data.toList = c[0] :: c.data.toList.tail := by
  have h1 := str_at c 0 h
  cases hc : c.data.toList with
  | nil => have := str_len c; rw [hc] at this; simp at this; omega
  | cons a r => rw [hc] at h1; simp at h1; rw [h1]; rfl
theorem trim0_step (c : ByteArray) (h : 0 < c.size) (h48 : c[0].toNat = 48) : trim0 (c.extract 1 c.size).data.toList = trim0 c.data.toList := by
  rw [extract_list]
  have e : c[0] = 48 := UInt8.toNat_inj.1 h48
  conv => rhs; rw [list_head c h, e]
  rfl
theorem trim0_stop (c : ByteArray) (h : 0 < c.size) (h48 : c[0].toNat ≠ 48) : trim0 c.data.toList = c.data.toList := by
  have e : (c[0] == 48) = false := by
    rw [beq_eq_false_iff_ne]
    intro e
    exact h48 (by rw [e]; rfl)
  rw [list_head c h]
  simp [trim0, List.dropWhile, e]
theorem trim0_end (c : ByteArray) (h : c.size = 0) : trim0 c.data.toList = c.data.toList := by
  have : c.data.toList = [] := List.eq_nil_of_length_eq_zero (by rw [str_len]; exact h)
  rw [this]; rfl
theorem trimL_step (c : ByteArray) (h : 1 < c.size) (h48 : c[0].toNat = 48) : trimL (c.extract 1 c.size).data.toList = trimL c.data.toList := by
  rw [extract_list]
  have e : c[0] = 48 := UInt8.toNat_inj.1 h48
  have hl := str_len c
  conv => rhs; rw [list_head c (by omega), e]
  cases hc : c.data.toList.tail with
  | nil => have := congrArg List.length hc; rw [List.length_tail] at this; simp at this; omega
  | cons a r => rfl
theorem trimL_stop (c : ByteArray) (h48 : c.size ≤ 1 ∨ ∃ h : 0 < c.size, c[0].toNat ≠ 48) : trimL c.data.toList = c.data.toList := by
  have hl := str_len c
  cases hc : c.data.toList with
  | nil => rfl
  | cons a r =>
    cases r with
    | nil => rfl
    | cons b r =>
      rcases h48 with h | ⟨h, h48⟩
      · rw [hc] at hl; simp at hl; omega
      · have h1 := str_at c 0 h
        rw [hc] at h1
        simp at h1
        have : a ≠ 48 := fun e => h48 (by rw [← h1, e]; rfl)
        simp [trimL, this]

set_option maxHeartbeats 1000000 in
theorem trimByte (s : ByteArray) (hs : s.size ≤ maxLen) (w : World) : Calls Tryz.prog 85 #[.string s, .int .u8 48] w fun e w' => e = .returned (.string (bStr (trim0 s.data.toList))) ∧ w = w' := by
  unfold maxLen at hs
  go_enter Tryz.func85, Tryz.ntmps85
  go_wp2_with fail
  go_loopg [0] s.size (fun g s0 wr => ∃ c : ByteArray, g = c.size ∧ c.size ≤ s.size ∧ s0 = .string c ∧ Hid (trim0 c.data.toList = trim0 s.data.toList) ∧ wr = w)
  case atStart => exact ⟨s, rfl, Nat.le_refl _, rfl, Lib.hid rfl, rfl⟩
  case round =>
    obtain ⟨c, rfl, hc, rfl, HT, rfl⟩ := hrel
    by_cases hz : 0 < c.size
    · by_cases h48 : c[0].toNat = 48
      · have HE := Lib.hid (trim0_step c hz h48)
        have HZ := Lib.hid (extract_size c)
        go_wp2_with fail
        go_roundg (c.size - 1)
        case measure => omega
        case rel => exact ⟨c.extract 1 c.size, HZ.out.symm, by rw [HZ.out]; omega, rfl, Lib.hid (HE.out.trans HT.out), rfl⟩
      · have HE := Lib.hid (trim0_stop c hz h48)
        have hb : ((c[0].toNat : Int) == 48) = false := by simp; omega
        clear h48
        go_wp2_with fail
        go_ret
        exact ⟨by rw [← HT.out, HE.out, bStr_of]; rfl, rfl⟩
    · have hz' : c.size = 0 := by omega
      have HE := Lib.hid (trim0_end c hz')
      clear hz
      go_wp2_with fail
      go_ret
      exact ⟨by rw [← HT.out, HE.out, bStr_of]; rfl, rfl⟩

theorem ne_empty (s : ByteArray) (h : 0 < s.size) : s.toList.isEmpty = false := by
  rw [Lib.toList_data, List.isEmpty_eq_false_iff]
  intro e
  have := str_len s
  rw [e] at this
  simp at this
  omega
set_option maxRecDepth 100000 in
set_option maxHeartbeats 1000000 in
theorem trimLeft_any (s : ByteArray) (hs : s.size ≤ maxLen) (w : World) : Calls Tryz.prog 72 #[.string s, .string ⟨#[48]⟩] w fun e w' => e = .returned (.string (bStr (trim0 s.data.toList))) ∧ w = w' := by
  have HT := Lib.hid fun W => trimByte s hs W
  by_cases hz : s.size = 0
  · have HE := Lib.hid (trim0_end s hz)
    have hse : s = ByteArray.empty := by
      have : s.data.toList = [] := List.eq_nil_of_length_eq_zero (by rw [str_len]; exact hz)
      rw [← bStr_of s, this]; rfl
    subst hse
    clear hs hz
    go_enter Tryz.func72, Tryz.ntmps72
    go_wp2_with fail
    go_ret
    exact ⟨rfl, rfl⟩
  · generalize bStr (trim0 s.data.toList) = r at *
    have hz' : 0 < s.size := by omega
    have he := ne_empty s hz'
    clear hz hs hz'
    go_enter Tryz.func72, Tryz.ntmps72
    go_wp2_with fail
    refine (HT.out _).mono ?_
    rintro e w1 ⟨rfl, rfl⟩
    go_wp2_with fail
    go_ret
    exact ⟨rfl, rfl⟩

theorem itoa_digit (d : Nat) (h : d ≤ 9) (w : World) : Calls Tryz.prog 71 #[.int .i64 d] w fun e w' => e = .returned (.string (bStr (tx [(d : Int)]))) ∧ w = w' := by
  refine (Tryz.strconv_Itoa_small d (by omega) w).mono ?_
  rintro e w' ⟨rfl, rfl⟩
  refine ⟨?_, rfl⟩
  have e : Lib.decDigits d = tx [(d : Int)] := by
    unfold Lib.decDigits
    rw [dif_pos (by omega)]
    simp [tx]
  rw [e]; rfl

theorem bcells_step (ds : List Int) (k : Nat) (h : k < ds.length) : Lib.byteCells (tx (ds.take k)) ++ Lib.strCells (bStr (tx [ds[k]])) = Lib.byteCells (tx (ds.take (k + 1))) := by
  rw [Lib.strCells_eq, bStr_list, ← Lib.byteCells_append, ← tx_append, ← List.take_append_getElem h]
theorem bcells_len (ds : List Int) (k : Nat) : (Lib.byteCells (tx (ds.take k))).length ≤ ds.length := by
  rw [Lib.byteCells_length, tx_length, List.length_take]; omega

set_option maxRecDepth 100000 in
set_option maxHeartbeats 2000000 in
/-- The text of digits. -/
theorem plain_any (w : World) (B : Nat) (v : Value) (ds : List Int) (hR : IntSl w B v ds) (hBw : B ≤ w.heap.size) (hd : ∀ d ∈ ds, 0 ≤ d ∧ d ≤ 9) (hl : ds.length ≤ 1000) :
    Calls Tryz.prog 53 #[v] w fun e w' => e = .returned (.tuple #[.string (plS ds), .bool (plB ds)]) ∧ Below w.heap.size w w' := by
  obtain ⟨A, cap, rfl, hnc, hcm, hcell⟩ := hR
  unfold maxLen at hcm
  have Hc := Lib.hid hcell
  have Hd := Lib.hid hd
  have HP := Lib.hid (plS_num hd)
  have HT := Lib.hid (trimZ_num (tx_mem hd))
  clear hcell hd
  go_enter Tryz.func53, Tryz.ntmps53
  go_wp2_with fail
  go_loopg [6, 10] ds.length (fun g s6 s10 wr => ∃ k : Nat, g + k = ds.length ∧ s10 = .int .i64 k ∧ Lib.IsBuilder 76 5 w.heap.size w.heap.size (Lib.byteCells (tx (ds.take k))) wr ∧ Below w.heap.size w wr)
  case atStart =>
    refine ⟨0, rfl, rfl, .inl ⟨Nat.le_refl _, .slice none 0 0, ?_, ?_, ?_⟩, (Below.refl _ _).alloc (Nat.le_refl _) _⟩
    · exact heap_alloc_new w _
    · exact World.ownsRow_nil _ _ _ _
    · simp [Value.ownBlock]
  case round =>
    obtain ⟨k, hk, rfl, hI, hB⟩ := hrel
    have HI := Lib.hid hI
    clear hI
    by_cases hlt : k < ds.length
    · obtain ⟨b, o, rfl, hb, hc⟩ := Hc.out (by omega)
      have hbw : b < w.heap.size := by omega
      have e0 := (hB.cell (p := ⟨b, o + k, none⟩) hbw).trans (hc k hlt)
      have hdk := Hd.out ds[k] (List.getElem_mem hlt)
      have hbs := hB.size
      rw [List.getD_eq_getElem?_getD, List.getElem?_eq_getElem hlt, Option.getD_some] at e0
      have HS := Lib.hid (bcells_step ds k hlt)
      have hl1 := bcells_len ds k
      obtain ⟨d, hdd⟩ := Int.eq_ofNat_of_zero_le hdk.1
      rw [hdd] at e0 HS
      have hd9 : d ≤ 9 := by omega
      clear hc hdk hdd
      go_wp2_with fail
      refine (itoa_digit d hd9 _).mono ?_
      rintro e w1 ⟨rfl, rfl⟩
      go_wp2_with fail
      refine (writeString_any _ _ _ _ _ HI.out (by rw [bStr_size, tx_length]; simp; omega) hbs).mono ?_
      rintro e w2 ⟨rfl, hI2, hb2⟩
      rw [HS.out] at hI2
      have HI2 := Lib.hid hI2
      have hB2 := hB.trans hb2
      clear hI2 hb2 e0 hB
      go_wp2_with fail
      go_roundg (gk - 1)
      case measure => omega
      case rel => exact ⟨k + 1, by omega, by go_num, HI2.out, hB2⟩
    · obtain rfl : k = ds.length := by omega
      rw [List.take_length] at HI
      go_wp2_with fail
      refine (Tryz.Builder_String_any w.heap.size w.heap.size (tx ds) _ HI.out hB.size).mono ?_
      rintro e w2 ⟨rfl, hb2⟩
      have hB2 := hB.trans hb2
      clear hb2 hB
      go_wp2_with fail
      refine (trimLeft_any (bStr (tx ds)) (by rw [bStr_size, tx_length]; unfold maxLen; omega) _).mono ?_
      rintro e w3 ⟨rfl, rfl⟩
      rw [bStr_list]
      clear HI
      by_cases ht : trim0 (tx ds) = []
      · have hb : bStr (trim0 (tx ds)) = ⟨#[]⟩ := by rw [ht]; rfl
        have hz1 : trimZ (tx ds) = [48] := by unfold trimZ; rw [if_pos ht]
        rw [hb]
        by_cases hz : ds.length = 0
        · have hds : ds = [] := List.eq_nil_of_length_eq_zero hz
          have H1 := Lib.hid (show plS ds = ByteArray.empty by rw [hds]; rfl)
          have H2 := Lib.hid (show plB ds = false by rw [hds]; rfl)
          have e1 : ((ds.length : Int) == 0) = true := by simp [hz]
          clear hb hz1 hds ht HT HP Hd Hc
          generalize ds.length = n at *
          go_wp2_with fail
          go_ret2
          exact ⟨by rw [H1.out, H2.out]; rfl, hB2⟩
        · have hds : ds ≠ [] := fun e => hz (by rw [e]; rfl)
          have H1 := Lib.hid (show plS ds = ⟨#[48]⟩ by unfold plS; rw [if_pos ⟨hds, by rw [hz1]; decide⟩, hz1]; rfl)
          have H2 := Lib.hid (show plB ds = true by unfold plB; rw [hz1]; simp [hds])
          have e1 : ((ds.length : Int) == 0) = false := by simp; omega
          clear hb hz1 hds ht HT HP Hd Hc
          generalize ds.length = n at *
          go_wp2_with fail
          refine (iNum ⟨#[48]⟩ (by decide) _).mono ?_
          rintro e w4 ⟨rfl, rfl⟩
          rw [show numB (⟨#[48]⟩ : ByteArray).data.toList = true from rfl]
          go_wp2_with fail
          go_ret2
          exact ⟨by rw [H1.out, H2.out]; rfl, hB2⟩
      · have hz1 : trimZ (tx ds) = trim0 (tx ds) := by unfold trimZ; rw [if_neg ht]
        have hds : ds ≠ [] := by rintro rfl; exact ht rfl
        have hp : 0 < (bStr (trim0 (tx ds))).size := by rw [bStr_size]; exact List.length_pos_iff.2 ht
        have he := ne_empty _ hp
        have hlen : ds.length ≠ 0 := fun e => hds (List.eq_nil_of_length_eq_zero e)
        have e1 : ((ds.length : Int) == 0) = false := by simp; omega
        have hsz : (bStr (trim0 (tx ds))).size ≤ maxLen := by
          have := trim0_length (tx ds)
          rw [bStr_size]; rw [tx_length] at this; unfold maxLen; omega
        have HN := Lib.hid fun W => iNum (bStr (trim0 (tx ds))) hsz W
        by_cases hl9 : (trim0 (tx ds)).length ≤ 9
        · have H1 := Lib.hid (show plS ds = bStr (trim0 (tx ds)) by unfold plS; rw [if_pos ⟨hds, by rw [hz1]; exact hl9⟩, hz1])
          have H2 := Lib.hid (show plB ds = true by unfold plB; rw [hz1]; simp [hds, hl9])
          have H3 := Lib.hid (show numB (bStr (trim0 (tx ds))).data.toList = true by rw [bStr_list, ← hz1, HT.out, hz1]; simpa using hl9)
          generalize bStr (trim0 (tx ds)) = c at *
          clear hz1 hds ht HT HP Hd Hc hl9 hp hsz hlen
          generalize ds.length = n at *
          go_wp2_with fail
          refine (HN.out _).mono ?_
          rw [H3.out]
          rintro e w4 ⟨rfl, rfl⟩
          go_wp2_with fail
          go_ret2
          exact ⟨by rw [H1.out, H2.out]; rfl, hB2⟩
        · have H1 := Lib.hid (show plS ds = ByteArray.empty by unfold plS; rw [if_neg (fun h => hl9 (by rw [← hz1]; exact h.2))])
          have H2 := Lib.hid (show plB ds = false by unfold plB; rw [hz1]; simp [hl9])
          have H3 := Lib.hid (show numB (bStr (trim0 (tx ds))).data.toList = false by rw [bStr_list, ← hz1, HT.out, hz1]; simpa using hl9)
          generalize bStr (trim0 (tx ds)) = c at *
          clear hz1 hds ht HT HP Hd Hc hl9 hp hsz hlen
          generalize ds.length = n at *
          go_wp2_with fail
          refine (HN.out _).mono ?_
          rw [H3.out]
          rintro e w4 ⟨rfl, rfl⟩
          go_wp2_with fail
          go_ret2
          exact ⟨by rw [H1.out, H2.out]; rfl, hB2⟩
end Go.Proofs.YtfmfjbphflkhiaaGreatDoor
