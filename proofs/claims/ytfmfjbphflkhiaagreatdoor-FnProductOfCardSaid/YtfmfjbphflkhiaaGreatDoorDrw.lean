/- Drawing numerals: the walks of l1Number at a digit, odd and l20Numeral. -/
import Derived.Test.YtfmfjbphflkhiaaGreatDoorDraw
import Derived.Laws.IdiomStrings
namespace Go.Proofs.YtfmfjbphflkhiaaGreatDoor
set_option linter.unusedVariables false
set_option linter.unusedSimpArgs false
open Go.RowKit

/-- The text of a digit. -/
def dStr (d : Nat) : ByteArray := ⟨#[UInt8.ofNat (48 + d)]⟩
theorem dStr_size (d : Nat) : (dStr d).size = 1 := rfl
theorem conv_dig (w : World) (d : Nat) (h : d ≤ 9) (t : TypeId) (fr : Nat × Nat) : (convert 22 9 (.slice (some ⟨w.heap.size, 0, none⟩) 1 1)).run Tryz.prog (w.alloc (.cells #[.int .u8 (48 + (d : Int))] t fr)) = .ok (.string (dStr d)) (w.alloc (.cells #[.int .u8 (48 + (d : Int))] t fr)) := by
  refine run_convert_bytes_back _ _ _ 5 ⟨w.heap.size, 0, none⟩ 1 [UInt8.ofNat (48 + d)] Tryz.underlying22 Tryz.underlying5 Tryz.underlying9 ?_
  intro j hj
  have hj0 : j = 0 := by simpa using hj
  subst hj0
  rw [Go.WideShapes.add_plain, World.cell?_alloc_mark]
  have : (UInt8.ofNat (48 + d)).toNat = 48 + d := by rw [UInt8.toNat_ofNat']; omega
  simp
  omega
set_option maxRecDepth 20000 in
set_option maxHeartbeats 1000000 in
theorem numDig (d : Int) (w : World) (h0 : 0 ≤ d) (h1 : d ≤ 9) : Calls Tryz.prog 43 #[.int .i64 d] w fun e w' => e = .returned (.string (dStr d.toNat)) ∧ Below w.heap.size w w' := by
  obtain ⟨m, rfl⟩ := Int.eq_ofNat_of_zero_le h0
  have hm : m ≤ 9 := by omega
  have hc := conv_dig w m hm 5 (0, 0)
  rw [Int.toNat_natCast]
  clear h0 h1
  go_enter Tryz.func43, Tryz.ntmps43
  go_wp2_with fail
  go_ret
  exact ⟨rfl, (Below.refl _ _).alloc (Nat.le_refl _) _⟩

def OddPost (rb p : Nat) (w : World) (e : Ending) (w' : World) : Prop := ∃ b, e = .returned (.bool b) ∧ ∃ p', p' ≤ p + 1 ∧ Rdr w' rb p' ∧ w.grownBy w' (some rb)
set_option maxRecDepth 20000 in
set_option maxHeartbeats 1000000 in
theorem odd_any (n : Int) (rb p : Nat) (w : World) (h : Rdr w rb p) (hp : p < 1000000000) (hn : -1000 ≤ n) (hn1 : n ≤ 1000) :
    Calls Tryz.prog 50 #[.pointer (some ⟨rb, 0, none⟩), .int .i64 n] w (OddPost rb p w) := by
  by_cases hz : 0 < n
  · go_enter Tryz.func50, Tryz.ntmps50
    go_wp2_with fail
    refine (pick_any _ _ _ _ h (by omega)).mono ?_
    rintro e w1 ⟨x, rfl, _, _, hR, hg⟩
    by_cases hx : x = n - 1
    · go_wp2_with fail
      go_ret
      exact ⟨_, rfl, p + 1, Nat.le_refl _, hR, hg⟩
    · have hx' : (x == n - 1) = false := beq_eq_false_iff_ne.2 hx
      clear hx
      go_wp2_with fail
      go_ret
      exact ⟨_, rfl, p + 1, Nat.le_refl _, hR, hg⟩
  · go_enter Tryz.func50, Tryz.ntmps50
    go_wp2_with fail
    go_ret
    exact ⟨false, rfl, p, by omega, h, World.grownBy.refl _ _⟩

/-- A cell of a block just made, behind what the reader writes. -/
theorem new_cell {w w' : World} {cs : Array Value} {t : TypeId} {rb : Nat} (hg : (w.alloc (.cells cs t)).grownBy w' (some rb)) (hrb : rb < w.heap.size) (j : Nat) (u : Value) (h : cs[j]? = some u) : w'.cell? ⟨w.heap.size, j, none⟩ = some u := by
  refine hg.cell ?_ (fun e => by injection e with e; simp at e; omega)
  rw [World.cell?_alloc_mark, h]
theorem pick5 {P : Int → Prop} (n : Nat) (h : n < 5) (a b c d e : Int) (ha : P a) (hb : P b) (hc : P c) (hd : P d) (he : P e) : ∃ u, P u ∧ (#[Value.int .i64 a, .int .i64 b, .int .i64 c, .int .i64 d, .int .i64 e])[n]? = some (.int .i64 u) := by
  match n, h with
  | 0, _ => exact ⟨a, ha, rfl⟩
  | 1, _ => exact ⟨b, hb, rfl⟩
  | 2, _ => exact ⟨c, hc, rfl⟩
  | 3, _ => exact ⟨d, hd, rfl⟩
  | 4, _ => exact ⟨e, he, rfl⟩
theorem pick5s {P : ByteArray → Prop} (n : Nat) (h : n < 5) (a b c d e : ByteArray) (ha : P a) (hb : P b) (hc : P c) (hd : P d) (he : P e) : ∃ u, P u ∧ (#[Value.string a, .string b, .string c, .string d, .string e])[n]? = some (.string u) := by
  match n, h with
  | 0, _ => exact ⟨a, ha, rfl⟩
  | 1, _ => exact ⟨b, hb, rfl⟩
  | 2, _ => exact ⟨c, hc, rfl⟩
  | 3, _ => exact ⟨d, hd, rfl⟩
  | 4, _ => exact ⟨e, he, rfl⟩

set_option maxRecDepth 20000 in
set_option maxHeartbeats 4000000 in
theorem numeral_any (most n : Int) (rb p : Nat) (w : World) (h : Rdr w rb p) (hp : p < 900000000) (hm0 : 1 ≤ most) (hm : most ≤ 100) (hn : -1000 ≤ n) (hn1 : n ≤ 1000) :
    Calls Tryz.prog 33 #[.pointer (some ⟨rb, 0, none⟩), .int .i64 most, .int .i64 n] w fun e w' => ∃ s, e = .returned (.string s) ∧ s.size ≤ 110 ∧ ∃ p', p' ≤ p + 1000 ∧ Rdr w' rb p' ∧ w.grownBy w' (some rb) := by
  have hrb := h.lt
  go_enter Tryz.func33, Tryz.ntmps33
  go_wp2_with fail
  refine (pick_any _ _ _ _ h (by omega)).mono ?_
  rintro e w1 ⟨x1, rfl, hx1, hz1, hR1, hg1⟩
  obtain ⟨hx10, hx11⟩ := hx1 (by omega)
  obtain ⟨m1, rfl⟩ := Int.eq_ofNat_of_zero_le hx10
  clear hx1 hz1 hx10
  go_wp2_with fail
  go_loopg [7, 8] (1 + m1) (fun g s7 s8 wr => ∃ k : Nat, g = k ∧ ∃ s : ByteArray, s7 = .string s ∧ s8 = .int .i64 k ∧ s.size + k ≤ 100 ∧ ∃ p', p' + 6 * k ≤ p + 1 + 600 ∧ Rdr wr rb p' ∧ w.grownBy wr (some rb))
  case atStart => exact ⟨1 + m1, rfl, _, rfl, by first | rfl | exact congrArg (Value.int .i64) (by omega), by show 0 + (1 + m1) ≤ 100; omega, p + 1, by omega, hR1, hg1⟩
  case round =>
    obtain ⟨k, rfl, s, rfl, rfl, hsk, p', hp', hR, hg⟩ := hrel
    clear hR1 hg1
    by_cases hk : 0 < gk
    · go_wp2_with fail
      refine (pick_any _ _ _ _ hR (by omega)).mono ?_
      rintro e w2 ⟨x2, rfl, hx2, hz2, hR2, hg2⟩
      obtain ⟨hx20, hx21⟩ := hx2 (by omega)
      clear hx2 hz2 hR
      go_wp2_with fail
      refine (pick_any _ _ _ _ hR2 (by omega)).mono ?_
      rintro e w3 ⟨x3, rfl, hx3, hz3, hR3, hg3⟩
      obtain ⟨hx30, hx31⟩ := hx3 (by omega)
      clear hx3 hz3 hR2
      go_wp2_with fail
      refine (pick_any _ _ _ _ hR3 (by omega)).mono ?_
      rintro e w4 ⟨x4, rfl, hx4, hz4, hR4, hg4⟩
      obtain ⟨hx40, hx41⟩ := hx4 (by omega)
      clear hx4 hz4 hR3
      have hs4 : rb < w4.heap.size := hR4.lt
      have hRa := hR4.keep (w' := w4.alloc (.cells #[.int .i64 0, .int .i64 9, .int .i64 x2, .int .i64 x3, .int .i64 x4] 3)) fun j hj => heap_alloc_old w4 _ (by omega)
      have hga := World.grownBy_alloc w4 (.cells #[.int .i64 0, .int .i64 9, .int .i64 x2, .int .i64 x3, .int .i64 x4] 3) (some rb)
      go_wp2_with fail
      refine (pick_any _ _ _ _ hRa (by omega)).mono ?_
      rintro e w5 ⟨x5, rfl, hx5, hz5, hR5, hg5⟩
      obtain ⟨hx50, hx51⟩ := hx5 (by omega)
      obtain ⟨m5, rfl⟩ := Int.eq_ofNat_of_zero_le hx50
      clear hx5 hz5 hRa
      have hm5 : m5 < 5 := by omega
      obtain ⟨d, hd, hcd⟩ := pick5 (P := fun u => 0 ≤ u ∧ u ≤ 9) m5 hm5 0 9 x2 x3 x4 (by omega) (by omega) (by omega) (by omega) (by omega)
      obtain ⟨hd0, hd1⟩ := hd
      have hcell := new_cell hg5 hs4 m5 _ hcd
      have hgw := ((((hg.trans hg2).trans hg3).trans hg4).trans hga).trans hg5
      clear hg hg2 hg3 hg4 hga hg5 hcd hR4
      by_cases hb : s.size = 0 ∧ 1 < gk ∧ d = 0
      · obtain ⟨hb1, hb2, rfl⟩ := hb
        have e1 : ((s.size : Int) == 0) = true := by simp [hb1]
        go_wp2_with fail
        refine (pick_any _ _ _ _ hR5 (by omega)).mono ?_
        rintro e w6 ⟨x6, rfl, hx6, hz6, hR6, hg6⟩
        obtain ⟨hx60, hx61⟩ := hx6 (by omega)
        clear hx6 hz6 hR5 hcell
        go_wp2_with fail
        refine (numDig _ _ (by omega) (by omega)).mono ?_
        rintro e w7 ⟨rfl, hb7⟩
        have hR7 := hR6.below hb7 hR6.lt
        have hg7 := (hgw.trans hg6).trans (grown_of_below hb7 _)
        generalize hds : dStr (1 + x6).toNat = ds
        have hds1 : ds.size = 1 := by rw [← hds]; rfl
        clear hds
        go_wp2_with fail
        go_roundg (gk - 1)
        case measure => omega
        case rel => exact ⟨gk - 1, rfl, _, rfl, by go_num, by simp; omega, p' + 5, by omega, hR7, hg7⟩
      · by_cases e1 : ((s.size : Int) == 0) = true
        · by_cases hb2 : 1 < gk
          · have hd2 : d ≠ 0 := fun e => hb ⟨by simpa using e1, hb2, e⟩
            have e3 : (d == 0) = false := by simpa using hd2
            clear hb
            go_wp2_with fail
            refine (numDig _ _ (by omega) (by omega)).mono ?_
            rintro e w7 ⟨rfl, hb7⟩
            have hR7 := hR5.below hb7 hR5.lt
            have hg7 := hgw.trans (grown_of_below hb7 _)
            generalize hds : dStr d.toNat = ds
            have hds1 : ds.size = 1 := by rw [← hds]; rfl
            clear hds
            go_wp2_with fail
            go_roundg (gk - 1)
            case measure => omega
            case rel => exact ⟨gk - 1, rfl, _, rfl, by go_num, by simp; omega, p' + 4, by omega, hR7, hg7⟩
          · clear hb
            go_wp2_with fail
            refine (numDig _ _ (by omega) (by omega)).mono ?_
            rintro e w7 ⟨rfl, hb7⟩
            have hR7 := hR5.below hb7 hR5.lt
            have hg7 := hgw.trans (grown_of_below hb7 _)
            generalize hds : dStr d.toNat = ds
            have hds1 : ds.size = 1 := by rw [← hds]; rfl
            clear hds
            go_wp2_with fail
            go_roundg (gk - 1)
            case measure => omega
            case rel => exact ⟨gk - 1, rfl, _, rfl, by go_num, by simp; omega, p' + 4, by omega, hR7, hg7⟩
        · have e1' : ((s.size : Int) == 0) = false := by simpa using e1
          clear hb e1
          go_wp2_with fail
          refine (numDig _ _ (by omega) (by omega)).mono ?_
          rintro e w7 ⟨rfl, hb7⟩
          have hR7 := hR5.below hb7 hR5.lt
          have hg7 := hgw.trans (grown_of_below hb7 _)
          generalize hds : dStr d.toNat = ds
          have hds1 : ds.size = 1 := by rw [← hds]; rfl
          clear hds
          go_wp2_with fail
          go_roundg (gk - 1)
          case measure => omega
          case rel => exact ⟨gk - 1, rfl, _, rfl, by go_num, by simp; omega, p' + 4, by omega, hR7, hg7⟩
    · obtain rfl : gk = 0 := by omega
      go_wp2_with fail
      refine (odd_any _ _ _ _ hR (by omega) hn hn1).mono ?_
      rintro e w2 ⟨b, rfl, p2, hp2, hR2, hg2⟩
      have hgw := hg.trans hg2
      clear hg hg2 hR
      cases b with
      | false =>
        go_wp2_with fail
        go_ret
        exact ⟨s, rfl, by omega, p2, by omega, hR2, hgw⟩
      | true =>
        have hs2 : rb < w2.heap.size := hR2.lt
        have hRa := hR2.keep (w' := w2.alloc (.cells #[.string ⟨#[]⟩, .string (⟨#[48]⟩ ++ s), .string ⟨#[97]⟩, .string (s ++ ⟨#[120]⟩), .string ⟨#[49, 50, 51, 52, 53, 54, 55, 56, 57, 48]⟩] 9)) fun j hj => heap_alloc_old w2 _ (by omega)
        have hga := World.grownBy_alloc w2 (.cells #[.string ⟨#[]⟩, .string (⟨#[48]⟩ ++ s), .string ⟨#[97]⟩, .string (s ++ ⟨#[120]⟩), .string ⟨#[49, 50, 51, 52, 53, 54, 55, 56, 57, 48]⟩] 9) (some rb)
        go_wp2_with fail
        refine (pick_any _ _ _ _ hRa (by omega)).mono ?_
        rintro e w5 ⟨x5, rfl, hx5, hz5, hR5, hg5⟩
        obtain ⟨hx50, hx51⟩ := hx5 (by omega)
        obtain ⟨m5, rfl⟩ := Int.eq_ofNat_of_zero_le hx50
        clear hx5 hz5 hRa
        have hm5 : m5 < 5 := by omega
        obtain ⟨d, hd, hcd⟩ := pick5s (P := fun u => u.size ≤ 110) m5 hm5 ⟨#[]⟩ (⟨#[48]⟩ ++ s) ⟨#[97]⟩ (s ++ ⟨#[120]⟩) ⟨#[49, 50, 51, 52, 53, 54, 55, 56, 57, 48]⟩ (by decide) (by rw [ByteArray.size_append]; show 1 + s.size ≤ 110; omega) (by decide) (by rw [ByteArray.size_append]; show s.size + 1 ≤ 110; omega) (by decide)
        have hcell := new_cell hg5 hs2 m5 _ hcd
        have hgw' := (hgw.trans hga).trans hg5
        clear hgw hga hg5 hcd hR2
        go_wp2_with fail
        go_ret
        exact ⟨d, rfl, hd, p2 + 1, by omega, hR5, hgw'⟩
end Go.Proofs.YtfmfjbphflkhiaaGreatDoor
