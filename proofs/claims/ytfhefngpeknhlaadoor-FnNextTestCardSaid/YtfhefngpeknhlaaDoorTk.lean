/- The walks of takenBy and TakenBy, of the program and of the reference. -/
import Derived.Test.YtfhefngpeknhlaaDoorTkp
import Derived.Test.YtfhefngpeknhlaaDoorPlain
import Derived.Test.YtfhefngpeknhlaaDoorOrd
import Derived.Deep.DeepCutAuto
import Derived.BigRegion
import Derived.RegionTactic
namespace Go.Proofs.YtfhefngpeknhlaaDoor
set_option linter.unusedVariables false
set_option linter.unusedSimpArgs false
open Go.RowKit

theorem infoIntT : (Tryd.prog.info? 3).map (fun i => (i.zero, i.size, i.bytes)) = some (some (.int .i64 0), 1, 8) := by kernel_rfl
theorem isWay_t (n : Int) (w : World) (h1 : 0 ≤ n) (h2 : n ≤ 15) : Calls Tryd.prog 55 #[.int .i64 n] w fun e w' => e = .returned (.bool true) ∧ w = w' := by
  go_enter Tryd.func55, Tryd.ntmps55
  go_wp2_with (first | (go_at_call 87; ((with_reducible refine (in_t _ _ _ _ ?_ ?_).mono ?_)); (omega); (omega); rintro e w' ⟨rfl, rfl⟩))
  go_ret
  exact ⟨rfl, rfl⟩
theorem isWay_f (n : Int) (w : World) (h : n < 0 ∨ 15 < n) : Calls Tryd.prog 55 #[.int .i64 n] w fun e w' => e = .returned (.bool false) ∧ w = w' := by
  go_enter Tryd.func55, Tryd.ntmps55
  go_wp2_with (first | (go_at_call 87; ((with_reducible refine (in_f _ _ _ _ ?_).mono ?_)); (omega); rintro e w' ⟨rfl, rfl⟩))
  go_ret
  exact ⟨rfl, rfl⟩
theorem own_setCells {base : Nat} {e : TypeId} {g n cap : Nat} : ∀ (vs : List Value) (o : Nat) (w : World) (xs : List Value), Own w base e 1 (.slice (some ⟨g, 0, none⟩) n cap) n xs → o + vs.length = n →
    Own (w.setCells g o vs) base e 1 (.slice (some ⟨g, 0, none⟩) n cap) n (xs.take o ++ vs) ∧ w.grownBy (w.setCells g o vs) (some g)
  | [], o, w, xs, h, hl => by
    have hx := h.1
    rw [List.append_nil, List.take_of_length_le (by simp at hl; omega)]
    exact ⟨h, World.grownBy.refl _ _⟩
  | v :: r, o, w, xs, h, hl => by
    have hx := h.1
    simp only [List.length_cons] at hl
    have h1 := h.set_ o (by omega) v
    obtain ⟨h2, g2⟩ := own_setCells r (o + 1) _ _ h1 (by omega)
    have e1 : (xs.set o v).take (o + 1) = xs.take o ++ [v] := by
      rw [List.take_add_one, List.take_set, List.set_eq_of_length_le (by rw [List.length_take]; omega), List.getElem?_set_self (by omega)]
      rfl
    rw [e1, List.append_assoc] at h2
    exact ⟨h2, (grown_set w ⟨g, o, none⟩ v).trans g2⟩
/-- slices.Reverse, on a slice of the call's own. -/
theorem reverse_any (w : World) (base : Nat) (v : Value) (xs : List Int) (h : Own w base 3 1 v xs.length (xs.map (Value.int .i64))) (hl : xs.length ≤ 1000) :
    Calls Tryd.prog 91 #[v] w fun e w' => e = .returned (.tuple #[]) ∧ Own w' base 3 1 v xs.length (xs.reverse.map (Value.int .i64)) ∧ w.grownBy w' v.ownBlock := by
  by_cases hz : xs.length = 0
  · have hx : xs = [] := List.eq_nil_of_length_eq_zero hz
    subst hx
    obtain ⟨a, c, rfl⟩ : ∃ a c, v = .slice a 0 c := by
      rcases h.2 with ⟨rfl, _⟩ | ⟨g, cap, cur, rfl, _⟩
      · exact ⟨_, _, rfl⟩
      · exact ⟨_, _, rfl⟩
    refine (Tryd.slices_Reverse_int_empty a c w).mono ?_
    rintro e w' ⟨rfl, rfl⟩
    exact ⟨rfl, h, World.grownBy.refl _ _⟩
  · obtain ⟨g, cap, rfl, hnc, hcm, hgb, hgl, hcell, hfz⟩ := h.at_ (by omega)
    refine (Tryd.slices_Reverse_int_cells g 0 xs.length cap xs w (Nat.le_refl _) (by omega) (fun j hj => ?_) (fun j hj => by rw [Nat.zero_add]; exact hfz j)).mono ?_
    · rw [Nat.zero_add]
      refine hcell j _ ?_
      rw [List.getElem?_map, List.getD_eq_getElem?_getD, List.getElem?_eq_getElem hj]
      rfl
    · rintro e w' ⟨rfl, q, rfl⟩
      have hd : Own (w.drewN q) base 3 1 (.slice (some ⟨g, 0, none⟩) xs.length cap) xs.length (xs.map (Value.int .i64)) := h
      have := own_setCells ((xs.take xs.length).reverse.map (Value.int .i64)) 0 _ _ hd (by simp)
      rw [List.take_zero, List.nil_append] at this
      rw [List.take_length] at this ⊢
      exact ⟨rfl, this.1, ⟨this.2.os, this.2.tape, this.2.output, this.2.size, this.2.block⟩⟩

set_option maxRecDepth 20000 in
set_option maxHeartbeats 4000000 in
/-- What comes out by a way. -/
theorem takenBy_any (s t : ByteArray) (way : Int) (hs : s.size ≤ maxLen) (ht : t.size ≤ maxLen) (hns : numB s.data.toList = true) (hnt : numB t.data.toList = true) (h0 : 0 ≤ way) (h1 : way ≤ 15) (w : World) :
    Calls Tryd.prog 57 #[.string s, .string t, .int .i64 way] w fun e w' => e = .returned (.string (tkS s.data.toList t.data.toList way)) ∧ Below w.heap.size w w' := by
  have ID1 := Lib.hid fun k W => iDigit s hs hns k W
  have ID2 := Lib.hid fun k W => iDigit t ht hnt k W
  have R1 := Lib.hid fun k => dg_range (numB_all hns) k
  have R2 := Lib.hid fun k => dg_range (numB_all hnt) k
  have RB := Lib.hid fun k => tkB_01 hns hnt way k
  have HM := Lib.hid (tkL_mem hns hnt way s.size)
  have HL := Lib.hid (tkL_length s.data.toList t.data.toList way s.size)
  have HTl := Lib.hid (str_len t)
  have HSl := Lib.hid (str_len s)
  have hl := numB_len hns
  rw [str_len] at hl
  obtain ⟨l1, l2⟩ := hl
  have hlt2 := (numB_len hnt).2
  rw [str_len] at hlt2
  have hbits := bits_of way h0 h1
  obtain ⟨hb1, hb2, hb4, hb8⟩ := hbits
  have HB1 := Lib.hid hb1
  have HB2 := Lib.hid hb2
  have HB4 := Lib.hid hb4
  have HB8 := Lib.hid hb8
  obtain ⟨i0, hi, hz0, hz1, hz2⟩ := info_parts infoIntT
  clear hs ht hns hnt hb1 hb2 hb4 hb8
  go_enter Tryd.func57, Tryd.ntmps57
  go_wp2_with fail
  go_loopg [7, 8, 9, 10, 11, 12, 13, 18] s.size (fun g s7 s8 s9 s10 s11 s12 s13 s18 wr => ∃ k : Nat, ∃ c : Int, g + k = s.size ∧ s18 = .int .i64 k ∧ s8 = .int .i64 c ∧ Hid (c = tkB s.data.toList t.data.toList way k) ∧ wr.ownsRow w.heap.size 3 1 s7 k ((tkL s.data.toList t.data.toList way k).map (Value.int .i64)) ∧ Below w.heap.size w wr)
  case atStart => exact ⟨0, 0, rfl, rfl, rfl, Lib.hid rfl, World.ownsRow_nil _ _ _ _, Below.refl _ _⟩
  case round =>
    obtain ⟨k, c, hk, rfl, rfl, HC, hown, hB⟩ := hrel
    by_cases hlt : k < s.size
    · have ra := R1.out k
      have rb := R2.out k
      have rc := RB.out k
      rw [← HC.out] at rc
      have HP := Lib.hid (show tkD s.data.toList t.data.toList way k = (colP (dg s.data.toList k) (dg t.data.toList k) (decide (k < t.size)) c way).1 ∧ tkB s.data.toList t.data.toList way (k + 1) = (colP (dg s.data.toList k) (dg t.data.toList k) (decide (k < t.size)) c way).2 by rw [HC.out, ← HTl.out]; exact ⟨rfl, rfl⟩)
      go_wp2_with fail
      refine (ID1.out k _).mono ?_
      rintro e w' ⟨rfl, rfl⟩
      go_wp2_with fail
      refine (ID2.out k _).mono ?_
      rintro e w' ⟨rfl, rfl⟩
      generalize dg s.data.toList k = a at *
      generalize dg t.data.toList k = b at *
      obtain ⟨a0, a9⟩ := ra
      obtain ⟨b0, b9⟩ := rb
      have HOwn := Lib.hid hown
      have HBel := Lib.hid hB
      clear hown hB
      have HS := Lib.hid (tkL_succ s.data.toList t.data.toList way k)
      have hcut0 : way / 4 % 2 = 0 ∨ way / 4 % 2 = 1 := by omega
      go_upto_region 16 with fail
      go_cut [41] (fun s41 wx => s41 = .bool (decide (way / 4 % 2 = 1 ∧ a = 0 ∧ b ≠ 0)) ∧ wx = wr)
      case first =>
        by_cases h4 : way / 4 % 2 = 1
        · have hb : bits .and .i64 way 4 = 4 := by rw [HB4.out, h4]; rfl
          by_cases ha : a = 0
          · by_cases hb0 : b = 0
            · have e1 : (b != 0) = false := by simp [hb0]
              have HX := Lib.hid (show decide (way / 4 % 2 = 1 ∧ a = 0 ∧ b ≠ 0) = false by simp [hb0])
              have e2 : (a == 0) = true := by simp [ha]
              clear h4 hb0 ha
              go_wp2_with fail
              go_meet
              exact ⟨by rw [HX.out], rfl⟩
            · have e1 : (b != 0) = true := by simpa using hb0
              have HX := Lib.hid (show decide (way / 4 % 2 = 1 ∧ a = 0 ∧ b ≠ 0) = true by simp [hb0, h4, ha])
              have e2 : (a == 0) = true := by simp [ha]
              clear h4 hb0 ha
              go_wp2_with fail
              go_meet
              exact ⟨by rw [HX.out], rfl⟩
          · have e1 : (a == 0) = false := beq_eq_false_iff_ne.2 ha
            have HX := Lib.hid (show decide (way / 4 % 2 = 1 ∧ a = 0 ∧ b ≠ 0) = false by simp [ha])
            clear h4 ha
            go_wp2_with fail
            go_meet
            exact ⟨by rw [HX.out], rfl⟩
        · have hb : bits .and .i64 way 4 = 0 := by rw [HB4.out]; omega
          have HX := Lib.hid (show decide (way / 4 % 2 = 1 ∧ a = 0 ∧ b ≠ 0) = false by simp [h4])
          clear h4
          go_wp2_with fail
          go_meet
          exact ⟨by rw [HX.out], rfl⟩
      case rest =>
      obtain ⟨rfl, hwx⟩ := hcut
      replace hwx := hwx.symm
      subst hwx
      by_cases p1 : way / 4 % 2 = 1 ∧ a = 0 ∧ b ≠ 0
      · have HE := Lib.hid (show colP a b (decide (k < t.size)) c way = (b, 0) by unfold colP; rw [if_pos p1])
        have e1 : decide (way / 4 % 2 = 1 ∧ a = 0 ∧ b ≠ 0) = true := decide_eq_true p1
        rw [e1]
        clear p1 e1
        go_wp2_with (at_builtin; refine wpList_append_own _ rfl _ _ 35 rfl w.heap.size 3 i0 (.int .i64 0) 1 8 Tryd.underlying35 hi hz0 hz1 hz2 rfl (by decide) _ _ _ rfl (HOwn.out.alloc _) ⟨wr.heap.size, 0, none⟩ 1 1 [.int .i64 b] rfl rfl (cell_one_new _ _ _) (by simp [Value.oneCell']) (by unfold maxLen; omega) (by omega) (by have := HBel.out.size; simp; omega) ?_; intro v' w2 hown' hgrow _)
        have hB2 := (HBel.out.alloc HBel.out.size (.cells #[.int .i64 b] 3)).grown hgrow (by have := HBel.out.size; simp; omega) (fun j hj => (HOwn.out.lt j hj).1)
        go_roundg (gk - 1)
        case measure => omega
        case rel => exact ⟨k + 1, 0, by omega, by go_num, rfl, Lib.hid (by rw [HP.out.2, HE.out]), by rw [HS.out, List.map_append, HP.out.1, HE.out]; exact hown', hB2⟩
      have E1 := Lib.hid p1
      have e1 : decide (way / 4 % 2 = 1 ∧ a = 0 ∧ b ≠ 0) = false := decide_eq_false p1
      rw [e1]
      clear p1 e1
      go_upto_region 18 with fail
      go_cut [54] (fun s54 wx => s54 = .bool (decide (way / 8 % 2 = 1 ∧ b = 0 ∧ k < t.size)) ∧ wx = wr)
      case first =>
        by_cases h8 : way / 8 % 2 = 1
        · have hb : bits .and .i64 way 8 = 8 := by rw [HB8.out, h8]; rfl
          by_cases hb0 : b = 0
          · have e1 : (b == 0) = true := by simp [hb0]
            by_cases hkt : k < t.size
            · have HX := Lib.hid (show decide (way / 8 % 2 = 1 ∧ b = 0 ∧ k < t.size) = true by simp [h8, hkt, hb0])
              clear h8 hb0
              go_wp2_with fail
              go_meet
              exact ⟨by rw [HX.out], rfl⟩
            · have HX := Lib.hid (show decide (way / 8 % 2 = 1 ∧ b = 0 ∧ k < t.size) = false by simp [hkt])
              have hkt' : t.size ≤ k := by omega
              clear h8 hkt hb0
              go_wp2_with fail
              go_meet
              exact ⟨by rw [HX.out]; first | rfl | exact congrArg Value.bool (decide_eq_false (by omega)), rfl⟩
          · have e1 : (b == 0) = false := beq_eq_false_iff_ne.2 hb0
            have HX := Lib.hid (show decide (way / 8 % 2 = 1 ∧ b = 0 ∧ k < t.size) = false by simp [hb0])
            clear h8 hb0
            go_wp2_with fail
            go_meet
            exact ⟨by rw [HX.out], rfl⟩
        · have hb : bits .and .i64 way 8 = 0 := by rw [HB8.out]; omega
          have HX := Lib.hid (show decide (way / 8 % 2 = 1 ∧ b = 0 ∧ k < t.size) = false by simp [h8])
          clear h8
          go_wp2_with fail
          go_meet
          exact ⟨by rw [HX.out], rfl⟩
      case rest =>
      obtain ⟨rfl, hwx⟩ := hcut
      replace hwx := hwx.symm
      subst hwx
      by_cases p2 : way / 8 % 2 = 1 ∧ b = 0 ∧ k < t.size
      · have HE := Lib.hid (show colP a b (decide (k < t.size)) c way = (0, 0) by unfold colP; rw [if_neg E1.out, if_pos ⟨p2.1, p2.2.1, decide_eq_true p2.2.2⟩])
        have e1 : decide (way / 8 % 2 = 1 ∧ b = 0 ∧ k < t.size) = true := decide_eq_true p2
        rw [e1]
        clear p2 e1
        go_wp2_with (at_builtin; refine wpList_append_own _ rfl _ _ 35 rfl w.heap.size 3 i0 (.int .i64 0) 1 8 Tryd.underlying35 hi hz0 hz1 hz2 rfl (by decide) _ _ _ rfl (HOwn.out.alloc _) ⟨wr.heap.size, 0, none⟩ 1 1 [.int .i64 0] rfl rfl (cell_one_new _ _ _) (by simp [Value.oneCell']) (by unfold maxLen; omega) (by omega) (by have := HBel.out.size; simp; omega) ?_; intro v' w2 hown' hgrow _)
        have hB2 := (HBel.out.alloc HBel.out.size (.cells #[.int .i64 0] 3)).grown hgrow (by have := HBel.out.size; simp; omega) (fun j hj => (HOwn.out.lt j hj).1)
        go_roundg (gk - 1)
        case measure => omega
        case rel => exact ⟨k + 1, 0, by omega, by go_num, rfl, Lib.hid (by rw [HP.out.2, HE.out]), by rw [HS.out, List.map_append, HP.out.1, HE.out]; exact hown', hB2⟩
      have E2 := Lib.hid (show ¬ (way / 8 % 2 = 1 ∧ b = 0 ∧ decide (k < t.size) = true) from fun h => p2 ⟨h.1, h.2.1, of_decide_eq_true h.2.2⟩)
      have e1 : decide (way / 8 % 2 = 1 ∧ b = 0 ∧ k < t.size) = false := decide_eq_false p2
      rw [e1]
      clear p2 e1
      by_cases h1' : way % 2 = 1
      · have hb : bits .and .i64 way 1 = 1 := by rw [HB1.out, h1']
        by_cases hab : a ≤ b
        · have HE := Lib.hid (show colP a b (decide (k < t.size)) c way = (b - a, 0) by unfold colP; rw [if_neg E1.out, if_neg E2.out, if_pos h1', if_pos hab])
          have hmx : max (a - b) (b - a) = b - a := by omega
          clear h1'
          go_wp2_with (at_builtin; refine wpList_append_own _ rfl _ _ 35 rfl w.heap.size 3 i0 (.int .i64 0) 1 8 Tryd.underlying35 hi hz0 hz1 hz2 rfl (by decide) _ _ _ rfl (HOwn.out.alloc _) ⟨wr.heap.size, 0, none⟩ 1 1 [.int .i64 (b - a)] rfl rfl (cell_one_new _ _ _) (by simp [Value.oneCell']) (by unfold maxLen; omega) (by omega) (by have := HBel.out.size; simp; omega) ?_; intro v' w2 hown' hgrow _)
          have hB2 := (HBel.out.alloc HBel.out.size (.cells #[.int .i64 (b - a)] 3)).grown hgrow (by have := HBel.out.size; simp; omega) (fun j hj => (HOwn.out.lt j hj).1)
          go_roundg (gk - 1)
          case measure => omega
          case rel => exact ⟨k + 1, 0, by omega, by go_num, rfl, Lib.hid (by rw [HP.out.2, HE.out]), by rw [HS.out, List.map_append, HP.out.1, HE.out]; exact hown', hB2⟩
        · have HE := Lib.hid (show colP a b (decide (k < t.size)) c way = (a - b, 0) by unfold colP; rw [if_neg E1.out, if_neg E2.out, if_pos h1', if_neg hab])
          have hab' : b < a := by omega
          have hmx : max (a - b) (b - a) = a - b := by omega
          clear h1' hab
          go_wp2_with (at_builtin; refine wpList_append_own _ rfl _ _ 35 rfl w.heap.size 3 i0 (.int .i64 0) 1 8 Tryd.underlying35 hi hz0 hz1 hz2 rfl (by decide) _ _ _ rfl (HOwn.out.alloc _) ⟨wr.heap.size, 0, none⟩ 1 1 [.int .i64 (a - b)] rfl rfl (cell_one_new _ _ _) (by simp [Value.oneCell']) (by unfold maxLen; omega) (by omega) (by have := HBel.out.size; simp; omega) ?_; intro v' w2 hown' hgrow _)
          have hB2 := (HBel.out.alloc HBel.out.size (.cells #[.int .i64 (a - b)] 3)).grown hgrow (by have := HBel.out.size; simp; omega) (fun j hj => (HOwn.out.lt j hj).1)
          go_roundg (gk - 1)
          case measure => omega
          case rel => exact ⟨k + 1, 0, by omega, by go_num, rfl, Lib.hid (by rw [HP.out.2, HE.out]), by rw [HS.out, List.map_append, HP.out.1, HE.out]; exact hown', hB2⟩
      have hb : bits .and .i64 way 1 = 0 := by rw [HB1.out]; omega
      by_cases h2' : way / 2 % 2 = 0
      · have hbb : bits .and .i64 way 2 = 0 := by rw [HB2.out, h2']; rfl
        have hc0 : 0 ≤ c := by omega
        have hc1 : c ≤ 1 := by omega
        by_cases hn : a - b - c < 0
        · have HE := Lib.hid (show colP a b (decide (k < t.size)) c way = (a - b - c + 10, 1) by unfold colP; rw [if_neg E1.out, if_neg E2.out, if_neg h1', if_pos h2', if_pos hn])
          clear h1' h2' rc
          go_wp2_with (at_builtin; refine wpList_append_own _ rfl _ _ 35 rfl w.heap.size 3 i0 (.int .i64 0) 1 8 Tryd.underlying35 hi hz0 hz1 hz2 rfl (by decide) _ _ _ rfl (HOwn.out.alloc _) ⟨wr.heap.size, 0, none⟩ 1 1 [.int .i64 (a - b - c + 10)] rfl rfl (cell_one_new _ _ _) (by simp [Value.oneCell']) (by unfold maxLen; omega) (by omega) (by have := HBel.out.size; simp; omega) ?_; intro v' w2 hown' hgrow _)
          have hB2 := (HBel.out.alloc HBel.out.size (.cells #[.int .i64 (a - b - c + 10)] 3)).grown hgrow (by have := HBel.out.size; simp; omega) (fun j hj => (HOwn.out.lt j hj).1)
          go_roundg (gk - 1)
          case measure => omega
          case rel => exact ⟨k + 1, 1, by omega, by go_num, rfl, Lib.hid (by rw [HP.out.2, HE.out]), by rw [HS.out, List.map_append, HP.out.1, HE.out]; exact hown', hB2⟩
        · have HE := Lib.hid (show colP a b (decide (k < t.size)) c way = (a - b - c, 0) by unfold colP; rw [if_neg E1.out, if_neg E2.out, if_neg h1', if_pos h2', if_neg hn])
          have hn' : 0 ≤ a - b - c := by omega
          clear h1' h2' hn rc
          go_wp2_with (at_builtin; refine wpList_append_own _ rfl _ _ 35 rfl w.heap.size 3 i0 (.int .i64 0) 1 8 Tryd.underlying35 hi hz0 hz1 hz2 rfl (by decide) _ _ _ rfl (HOwn.out.alloc _) ⟨wr.heap.size, 0, none⟩ 1 1 [.int .i64 (a - b - c)] rfl rfl (cell_one_new _ _ _) (by simp [Value.oneCell']) (by unfold maxLen; omega) (by omega) (by have := HBel.out.size; simp; omega) ?_; intro v' w2 hown' hgrow _)
          have hB2 := (HBel.out.alloc HBel.out.size (.cells #[.int .i64 (a - b - c)] 3)).grown hgrow (by have := HBel.out.size; simp; omega) (fun j hj => (HOwn.out.lt j hj).1)
          go_roundg (gk - 1)
          case measure => omega
          case rel => exact ⟨k + 1, 0, by omega, by go_num, rfl, Lib.hid (by rw [HP.out.2, HE.out]), by rw [HS.out, List.map_append, HP.out.1, HE.out]; exact hown', hB2⟩
      · have hbb : bits .and .i64 way 2 = 2 := by rw [HB2.out]; omega
        by_cases hn : a - b < 0
        · have HE := Lib.hid (show colP a b (decide (k < t.size)) c way = (a - b + 10, 1) by unfold colP; rw [if_neg E1.out, if_neg E2.out, if_neg h1', if_neg h2', Int.sub_zero, if_pos hn])
          clear h1' h2'
          go_wp2_with (at_builtin; refine wpList_append_own _ rfl _ _ 35 rfl w.heap.size 3 i0 (.int .i64 0) 1 8 Tryd.underlying35 hi hz0 hz1 hz2 rfl (by decide) _ _ _ rfl (HOwn.out.alloc _) ⟨wr.heap.size, 0, none⟩ 1 1 [.int .i64 (a - b + 10)] rfl rfl (cell_one_new _ _ _) (by simp [Value.oneCell']) (by unfold maxLen; omega) (by omega) (by have := HBel.out.size; simp; omega) ?_; intro v' w2 hown' hgrow _)
          have hB2 := (HBel.out.alloc HBel.out.size (.cells #[.int .i64 (a - b + 10)] 3)).grown hgrow (by have := HBel.out.size; simp; omega) (fun j hj => (HOwn.out.lt j hj).1)
          go_roundg (gk - 1)
          case measure => omega
          case rel => exact ⟨k + 1, 1, by omega, by go_num, rfl, Lib.hid (by rw [HP.out.2, HE.out]), by rw [HS.out, List.map_append, HP.out.1, HE.out]; exact hown', hB2⟩
        · have HE := Lib.hid (show colP a b (decide (k < t.size)) c way = (a - b, 0) by unfold colP; rw [if_neg E1.out, if_neg E2.out, if_neg h1', if_neg h2', Int.sub_zero, if_neg hn])
          have hn' : 0 ≤ a - b := by omega
          clear h1' h2' hn
          go_wp2_with (at_builtin; refine wpList_append_own _ rfl _ _ 35 rfl w.heap.size 3 i0 (.int .i64 0) 1 8 Tryd.underlying35 hi hz0 hz1 hz2 rfl (by decide) _ _ _ rfl (HOwn.out.alloc _) ⟨wr.heap.size, 0, none⟩ 1 1 [.int .i64 (a - b)] rfl rfl (cell_one_new _ _ _) (by simp [Value.oneCell']) (by unfold maxLen; omega) (by omega) (by have := HBel.out.size; simp; omega) ?_; intro v' w2 hown' hgrow _)
          have hB2 := (HBel.out.alloc HBel.out.size (.cells #[.int .i64 (a - b)] 3)).grown hgrow (by have := HBel.out.size; simp; omega) (fun j hj => (HOwn.out.lt j hj).1)
          go_roundg (gk - 1)
          case measure => omega
          case rel => exact ⟨k + 1, 0, by omega, by go_num, rfl, Lib.hid (by rw [HP.out.2, HE.out]), by rw [HS.out, List.map_append, HP.out.1, HE.out]; exact hown', hB2⟩
    · obtain rfl : k = s.size := by omega
      have HO := Lib.hid (show Own wr w.heap.size 3 1 _ (tkL s.data.toList t.data.toList way s.size).length _ from by rw [HL.out]; exact Own.of_row hown)
      have HF := Lib.hid (show tkS s.data.toList t.data.toList way = plS (tkL s.data.toList t.data.toList way s.size).reverse by unfold tkS; rw [HSl.out])
      clear hown
      generalize tkL s.data.toList t.data.toList way s.size = xs at *
      have hxl : xs.length ≤ 9 := by rw [HL.out]; omega
      go_wp2_with fail
      refine (reverse_any _ _ _ xs HO.out (by omega)).mono ?_
      rintro e w2 ⟨rfl, ho2, g2⟩
      have hB2 := hB.grown g2 hB.size (fun j hj => (HO.out.lt j hj).1)
      have hI := IntSl.of_own (xs := xs.reverse) (by rw [List.length_reverse]; exact ho2)
      clear ho2 g2 hB
      go_wp2_with fail
      refine (plain_any _ _ _ _ hI (Nat.le_refl _) (fun d hd => HM.out d (List.mem_reverse.1 hd)) (by rw [List.length_reverse]; omega)).mono ?_
      rintro e w3 ⟨rfl, b3⟩
      have hB3 := below_own hB2 b3 hB2.size
      go_wp2_with fail
      go_ret
      exact ⟨by rw [HF.out]; rfl, hB3⟩
end Go.Proofs.YtfhefngpeknhlaaDoor
