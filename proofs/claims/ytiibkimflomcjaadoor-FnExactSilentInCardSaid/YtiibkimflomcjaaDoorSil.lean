/- The walks of SilentIn, of the program (a closure over both texts) and of the reference; its exact law. -/
import Derived.Test.YtiibkimflomcjaaDoorCom
import Derived.Test.YtiibkimflomcjaaDoorStrS
namespace Go.Proofs.YtiibkimflomcjaaDoor
set_option linter.unusedVariables false
set_option linter.unusedSimpArgs false
open Go.RowKit

theorem clipInt_any (v : Value) (n : Nat) (base : Nat) (xs : List Value) (w : World) (h : Own w base 3 1 v n xs) :
    Calls Tryd.prog 84 #[v] w fun e w' => ∃ v', e = .returned v' ∧ Own w' base 3 1 v' n xs ∧ w = w' := by
  obtain ⟨h1, h2⟩ := h
  rcases h2 with ⟨rfl, rfl⟩ | ⟨g, cap, cur, rfl, hb, hg, hnc, hcm, hcs, ht⟩
  · go_enter Tryd.func84, Tryd.ntmps84
    go_wp2_with fail
    go_ret
    exact ⟨_, rfl, ⟨h1, .inl ⟨rfl, rfl⟩⟩, rfl⟩
  · have hcm' := hcm
    unfold maxLen at hcm'
    go_enter Tryd.func84, Tryd.ntmps84
    go_wp2_with fail
    go_ret
    exact ⟨_, rfl, ⟨h1, .inr ⟨g, n, cur, rfl, hb, hg, Nat.le_refl _, by omega, hcs, ht⟩⟩, rfl⟩

/-- The numbers below k that p holds of. -/
def whL (p : Nat → Bool) (k : Nat) : List Int := ((List.range k).filter p).map fun i : Nat => (i : Int)
theorem whL_yes {p : Nat → Bool} {k : Nat} (h : p k = true) : whL p (k + 1) = whL p k ++ [(k : Int)] := by
  simp [whL, List.range_succ, List.filter_append, h]
theorem whL_no {p : Nat → Bool} {k : Nat} (h : p k = false) : whL p (k + 1) = whL p k := by
  simp [whL, List.range_succ, List.filter_append, h]
theorem whL_length (p : Nat → Bool) (k : Nat) : (whL p k).length ≤ k := by
  unfold whL
  rw [List.length_map]
  exact Nat.le_trans (List.length_filter_le _ _) (by rw [List.length_range]; exact Nat.le_refl _)
theorem infoIntW : (Tryd.prog.info? 3).map (fun i => (i.zero, i.size, i.bytes)) = some (some (.int .i64 0), 1, 8) := by kernel_rfl
def IntsP (xs : List Int) (w : World) (e : Ending) (w' : World) : Prop := ∃ v, e = .returned v ∧ Own w' w.heap.size 3 1 v xs.length (xs.map (Value.int .i64)) ∧ Below w.heap.size w w'

theorem comes_cl (s t : ByteArray) (b1 b2 : Nat) (way : Int) (hs : s.size ≤ maxLen) (ht : t.size ≤ maxLen) (w : World) (e1 : w.cell? ⟨b1, 0, none⟩ = some (.string s)) (e2 : w.cell? ⟨b2, 0, none⟩ = some (.string t)) :
    Calls Tryd.prog 65 #[.int .i64 way, .pointer (some ⟨b1, 0, none⟩), .pointer (some ⟨b2, 0, none⟩)] w fun e w' => e = .returned (.bool (comB s.data.toList t.data.toList way)) ∧ Below w.heap.size w w' := by
  have HC := Lib.hid fun W => iComes s t way hs ht W
  clear hs ht
  generalize comB s.data.toList t.data.toList way = x at *
  go_enter Tryd.func65, Tryd.ntmps65
  go_wp2_with fail
  refine (HC.out _).mono ?_
  rintro e w1 ⟨rfl, b1⟩
  go_wp2_with fail
  go_ret
  exact ⟨rfl, b1⟩

set_option maxRecDepth 20000 in
set_option maxHeartbeats 4000000 in
theorem which_silent (w : World) (lb : Array Value) (p : Nat → Bool) (B : Nat) (hBw : B ≤ w.heap.size) (b1 b2 : Nat) (hb1 : b1 < B) (hb2 : b2 < B)
    (hp : ∀ k : Nat, k < 16 → ∀ W, Below B w W → Calls Tryd.prog 65 #[.int .i64 k, .pointer (some ⟨b1, 0, none⟩), .pointer (some ⟨b2, 0, none⟩)] W fun e w' => e = .returned (.bool (p k)) ∧ Below W.heap.size W w') :
    Calls Tryd.prog 64 #[.func (.func 65) #[] #[.pointer (some ⟨b1, 0, none⟩), .pointer (some ⟨b2, 0, none⟩)]] w (IntsP (whL p 16) w) := by
  obtain ⟨i0, hi, hz0, hz1, hz2⟩ := info_parts infoIntW
  have HP := Lib.hid hp
  clear hp
  go_enter Tryd.func64, Tryd.ntmps64
  go_wp2_with fail
  go_loopg [3, 4, 5] 16 (fun g s3 s4 s5 wr => ∃ k : Nat, g + k = 16 ∧ s5 = .int .i64 k ∧ wr.ownsRow w.heap.size 3 1 s3 (whL p k).length ((whL p k).map (Value.int .i64)) ∧ Below w.heap.size w wr)
  case atStart => exact ⟨0, rfl, rfl, World.ownsRow_nil _ _ _ _, Below.refl _ _⟩
  case round =>
    obtain ⟨k, hk, rfl, hown, hB⟩ := hrel
    have hlen := whL_length p k
    by_cases hlt : k < 16
    · have HK := Lib.hid (HP.out k hlt wr (hB.mono hBw))
      have HOwn := Lib.hid hown
      have HBel := Lib.hid hB
      clear hown hB
      cases hpk : p k with
      | true =>
        have HS := Lib.hid (whL_yes hpk)
        rw [hpk] at HK
        clear hpk
        go_wp2_with fail
        refine HK.out.mono ?_
        rintro e w1 ⟨rfl, q1⟩
        have hown1 := own_below HOwn.out q1
        have hB1 := below_own HBel.out q1 HBel.out.size
        go_wp2_with (at_builtin; refine wpList_append_own _ rfl _ _ 42 rfl w.heap.size 3 i0 (.int .i64 0) 1 8 Tryd.underlying42 hi hz0 hz1 hz2 rfl (by decide) _ _ _ rfl (hown1.alloc _) ⟨w1.heap.size, 0, none⟩ 1 1 [.int .i64 k] rfl rfl (cell_one_new _ _ _) (by simp [Value.oneCell']) (by unfold maxLen; omega) (by omega) (by have := hB1.size; simp; omega) ?_; intro v' w2 hown' hgrow _)
        have hB2 := (hB1.alloc hB1.size (.cells #[.int .i64 (k : Int)] 3)).grown hgrow (by have := hB1.size; simp; omega) (fun j hj => (hown1.lt j hj).1)
        go_roundg (gk - 1)
        case measure => omega
        case rel => exact ⟨k + 1, by omega, by go_num, by rw [HS.out, List.length_append, List.map_append]; exact hown', hB2⟩
      | false =>
        have HS := Lib.hid (whL_no hpk)
        rw [hpk] at HK
        clear hpk
        go_wp2_with fail
        refine HK.out.mono ?_
        rintro e w1 ⟨rfl, q1⟩
        have hown1 := own_below HOwn.out q1
        have hB1 := below_own HBel.out q1 HBel.out.size
        go_wp2_with fail
        go_roundg (gk - 1)
        case measure => omega
        case rel => exact ⟨k + 1, by omega, by go_num, by rw [HS.out]; exact hown1, hB1⟩
    · obtain rfl : k = 16 := by omega
      go_wp2_with fail
      refine (clipInt_any _ _ _ _ _ (Own.of_row hown)).mono ?_
      rintro e w2 ⟨v', rfl, ho', rfl⟩
      go_wp2_with fail
      go_ret
      exact ⟨_, rfl, ho', hB⟩

def silL (s t : List UInt8) : List Int := whL (fun k => comB s t k) 16
set_option maxRecDepth 20000 in
set_option maxHeartbeats 4000000 in
theorem iSilent (s t : ByteArray) (hs : s.size ≤ maxLen) (ht : t.size ≤ maxLen) (w : World) : Calls Tryd.prog 31 #[.string s, .string t] w (IntsP (silL s.data.toList t.data.toList) w) := by
  obtain ⟨W2, hW2⟩ : ∃ W2, (w.alloc (.cells #[.string s] 9)).alloc (.cells #[.string t] 9) = W2 := ⟨_, rfl⟩
  have hsz : W2.heap.size = w.heap.size + 2 := by rw [← hW2]; simp
  have c1 : W2.cell? ⟨w.heap.size, 0, none⟩ = some (.string s) := by
    rw [← hW2, World.cell?_alloc_past _ _ _ (by simp), World.cell?_alloc_mark]; rfl
  have c2 : W2.cell? ⟨w.heap.size + 1, 0, none⟩ = some (.string t) := by
    rw [← hW2]
    have : w.heap.size + 1 = (w.alloc (.cells #[.string s] 9)).heap.size := by simp
    rw [this, World.cell?_alloc_mark]; rfl
  have hB2 : Below w.heap.size w W2 := by
    rw [← hW2]
    exact ((Below.refl _ _).alloc (Nat.le_refl _) _).alloc (by simp) _
  have HW := Lib.hid (which_silent W2 #[] (fun k => comB s.data.toList t.data.toList k) W2.heap.size (Nat.le_refl _) w.heap.size (w.heap.size + 1) (by omega) (by omega)
    (fun k _ W' hb => comes_cl s t w.heap.size (w.heap.size + 1) k hs ht W' ((hb.cell (p := ⟨w.heap.size, 0, none⟩) (by show w.heap.size < W2.heap.size; omega)).trans c1) ((hb.cell (p := ⟨w.heap.size + 1, 0, none⟩) (by show w.heap.size + 1 < W2.heap.size; omega)).trans c2)))
  have HE := Lib.hid hW2
  clear hs ht c1 c2 hW2
  unfold silL
  generalize whL (fun k => comB s.data.toList t.data.toList k) 16 = xs at *
  have hmf : ∀ (fn : Fn) (first cap : Array Value) (w : World), (Instr.makeFunc fn first cap).run Tryd.prog w = .ok (.func fn first cap) w := fun _ _ _ _ => rfl
  go_enter Tryd.func31, Tryd.ntmps31
  go_wp2_with fail
  rw [HE.out]
  refine HW.out.mono ?_
  rintro e w1 ⟨v, rfl, o1, b1⟩
  go_wp2_with fail
  go_ret
  exact ⟨v, rfl, o1.mono (by omega), below_own hB2 b1 hB2.size⟩

set_option maxRecDepth 20000 in
set_option maxHeartbeats 4000000 in
theorem sSilent (s t : ByteArray) (hs : s.size ≤ maxLen) (ht : t.size ≤ maxLen) (w : World) : Calls Tryd.prog 30 #[.string s, .string t] w (IntsP (silL s.data.toList t.data.toList) w) := by
  have HC := Lib.hid fun (k : Nat) W => sComes s t k hs ht W
  obtain ⟨i0, hi, hz0, hz1, hz2⟩ := info_parts infoIntW
  have hbel := (Below.refl w.heap.size w).alloc (Nat.le_refl _) (.cells #[] 3)
  have HF := Lib.hid (show ∀ k : Nat, comB s.data.toList t.data.toList k = (fun k : Nat => comB s.data.toList t.data.toList k) k from fun _ => rfl)
  unfold silL
  clear hs ht
  generalize (fun k : Nat => comB s.data.toList t.data.toList k) = p at *
  go_enter Tryd.func30, Tryd.ntmps30
  go_wp2_with fail
  go_loopg [5, 6] 16 (fun g s5 s6 wr => ∃ k : Nat, g + k = 16 ∧ s6 = .int .i64 k ∧ wr.ownsRow w.heap.size 3 1 s5 (whL p k).length ((whL p k).map (Value.int .i64)) ∧ Below w.heap.size w wr)
  case atStart => exact ⟨0, rfl, rfl, owns_new w w.heap.size 3 1 0 #[] (Nat.le_refl _) (by decide) rfl, hbel⟩
  case round =>
    obtain ⟨k, hk, rfl, hown, hB⟩ := hrel
    have hlen := whL_length p k
    by_cases hlt : k < 16
    · have HK := Lib.hid (HC.out k wr)
      rw [HF.out k] at HK
      have HOwn := Lib.hid hown
      have HBel := Lib.hid hB
      clear hown hB
      cases hpk : p k with
      | true =>
        have HS := Lib.hid (whL_yes hpk)
        rw [hpk] at HK
        clear hpk
        go_wp2_with fail
        refine HK.out.mono ?_
        rintro e w1 ⟨rfl, q1⟩
        have hown1 := own_below HOwn.out q1
        have hB1 := below_own HBel.out q1 HBel.out.size
        go_wp2_with (at_builtin; refine wpList_append_own _ rfl _ _ 42 rfl w.heap.size 3 i0 (.int .i64 0) 1 8 Tryd.underlying42 hi hz0 hz1 hz2 rfl (by decide) _ _ _ rfl (hown1.alloc _) ⟨w1.heap.size, 0, none⟩ 1 1 [.int .i64 k] rfl rfl (cell_one_new _ _ _) (by simp [Value.oneCell']) (by unfold maxLen; omega) (by omega) (by have := hB1.size; simp; omega) ?_; intro v' w2 hown' hgrow _)
        have hB2 := (hB1.alloc hB1.size (.cells #[.int .i64 (k : Int)] 3)).grown hgrow (by have := hB1.size; simp; omega) (fun j hj => (hown1.lt j hj).1)
        go_roundg (gk - 1)
        case measure => omega
        case rel => exact ⟨k + 1, by omega, by go_num, by rw [HS.out, List.length_append, List.map_append]; exact hown', hB2⟩
      | false =>
        have HS := Lib.hid (whL_no hpk)
        rw [hpk] at HK
        clear hpk
        go_wp2_with fail
        refine HK.out.mono ?_
        rintro e w1 ⟨rfl, q1⟩
        have hown1 := own_below HOwn.out q1
        have hB1 := below_own HBel.out q1 HBel.out.size
        go_wp2_with fail
        go_roundg (gk - 1)
        case measure => omega
        case rel => exact ⟨k + 1, by omega, by go_num, by rw [HS.out]; exact hown1, hB1⟩
    · obtain rfl : k = 16 := by omega
      go_wp2_with fail
      go_ret
      exact ⟨_, rfl, Own.of_row hown, hB⟩

set_option maxRecDepth 20000 in
set_option maxHeartbeats 2000000 in
theorem law_ExactSilentIn (s : ByteArray) (hs : s.size ≤ maxLen) (t : ByteArray) (ht : t.size ≤ maxLen) (w : World) :
    Calls Tryd.prog 8 #[.string s, .string t] w fun e w' => e = .returned (.bool true) ∧ Below w.heap.size w w' := by
  have CS := Lib.hid fun W => sSilent s t hs ht W
  have CI := Lib.hid fun W => iSilent s t hs ht W
  have hlen : (silL s.data.toList t.data.toList).length ≤ 16 := whL_length _ _
  unfold maxLen at hs ht
  by_cases hbig : 1048576 < s.size
  · go_enter Tryd.func8, Tryd.ntmps8
    go_wp2_with fail
    go_ret
    exact ⟨rfl, Below.refl _ _⟩
  have hbig' : s.size ≤ 1048576 := by omega
  clear hbig
  by_cases hbig2 : 1048576 < t.size
  · go_enter Tryd.func8, Tryd.ntmps8
    go_wp2_with fail
    go_ret
    exact ⟨rfl, Below.refl _ _⟩
  have hbig2' : t.size ≤ 1048576 := by omega
  clear hbig2
  generalize silL s.data.toList t.data.toList = xs at *
  go_enter Tryd.func8, Tryd.ntmps8
  go_wp2_with fail
  refine (CS.out _).mono ?_
  rintro e w1 ⟨v0, rfl, o0, b1⟩
  go_wp2_with fail
  refine (CI.out _).mono ?_
  rintro e w2 ⟨v1, rfl, o1, b2⟩
  have s0 := (IntSl.of_own o0).below b2 (Nat.le_refl _)
  go_wp2_with fail
  refine (eqInts _ w2.heap.size _ _ xs (IntSl.of_own o1) (s0.mono b2.size)).mono ?_
  rintro e w3 ⟨rfl, b3⟩
  have s0' := s0.below b3 b2.size
  have o1' := o1.below b3
  clear s0 o0 o1
  go_wp2_with fail
  refine (markInts _ _ _ _ xs 1 o1' (by omega) (by omega)).mono ?_
  rintro e w4 ⟨rfl, o4, g4⟩
  have hrow : ∀ k, v1.ownBlock = some k → w1.heap.size ≤ k := fun k hk => (o1'.lt k hk).1
  have s4 := s0'.grown g4 (by have := b2.size; have := b3.size; omega) hrow
  have hB4 : Below w.heap.size w w4 := (below_own (below_own b1 b2 b1.size) b3 (by have := b1.size; have := b2.size; omega)).grown g4 (by have := b1.size; have := b2.size; have := b3.size; omega) (fun k hk => by have := hrow k hk; have := b1.size; omega)
  have hs4 : w1.heap.size ≤ w4.heap.size := by have := b2.size; have := b3.size; have := g4.size; omega
  clear s0' o1' hrow b1 b2 b3 g4
  have m4 := IntSl.of_own (xs := marks 1 xs.length) (by rw [marks_length]; exact o4)
  go_wp2_with fail
  refine (heldInts _ _ _ 1 xs.length m4 (by omega) (by omega)).mono ?_
  rintro e w5 ⟨rfl, rfl⟩
  go_wp2_with fail
  refine (CI.out _).mono ?_
  rintro e w6 ⟨v2, rfl, o6, b6⟩
  have s6 := s4.below b6 hs4
  have m6 := m4.below b6 (Nat.le_refl _)
  have hs6 := b6.size
  go_wp2_with fail
  refine (eqInts _ w6.heap.size _ _ xs (IntSl.of_own o6) (s6.mono (by omega))).mono ?_
  rintro e w7 ⟨rfl, b7⟩
  have m7 := m6.below b7 hs6
  clear s4 s6 o6 m4 m6 o4
  go_wp2_with fail
  refine (heldInts _ _ _ 1 xs.length m7 (by omega) (by omega)).mono ?_
  rintro e w8 ⟨rfl, rfl⟩
  go_wp2_with fail
  go_ret
  exact ⟨rfl, below_own (below_own hB4 b6 hB4.size) b7 (by have := hB4.size; omega)⟩
end Go.Proofs.YtiibkimflomcjaaDoor
