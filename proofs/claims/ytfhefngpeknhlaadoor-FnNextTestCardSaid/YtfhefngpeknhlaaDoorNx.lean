/- The walks of NextTest, of the program (a range over a map) and of the reference; its exact law. -/
import Derived.Test.YtfhefngpeknhlaaDoorWst
import Derived.Test.YtfhefngpeknhlaaDoorSim
import Derived.Maps.RangeWalk
namespace Go.Proofs.YtfhefngpeknhlaaDoor
set_option linter.unusedVariables false
set_option linter.unusedSimpArgs false
open Go.RowKit Go.Maps

theorem keyT_one (q : Nat → ByteArray) (x : Int) : keyT (fun _ => q) 1 x = (tkS (q 0).data.toList (q 1).data.toList x).data.toList := by
  unfold keyT
  rw [show List.range 1 = [0] from rfl]
  exact Lib.join_one _ _
theorem key_ans (q : Nat → ByteArray) (xs : List Int) : (fun j => keyT (fun _ => q) 1 (xs.getD j 0)) = ansK (q 0).data.toList (q 1).data.toList xs := funext fun _ => keyT_one _ _
/-- The greatest lot of the exercise k; the first one whose greatest lot is least. -/
def gG (F : Nat → Nat → ByteArray) (xs : List Int) (k : Nat) : Nat := wst (ansK (F k 0).data.toList (F k 1).data.toList xs) xs.length xs.length
def nxB (G : Nat → Nat) : Nat → Int × Nat
  | 0 => (-1, 17)
  | k + 1 => if G k < (nxB G k).2 then ((k : Int), G k) else nxB G k
theorem nxB_yes {G : Nat → Nat} {k : Nat} (h : G k < (nxB G k).2) : nxB G (k + 1) = ((k : Int), G k) := if_pos h
theorem nxB_no {G : Nat → Nat} {k : Nat} (h : ¬ G k < (nxB G k).2) : nxB G (k + 1) = nxB G k := if_neg h
theorem nxB_le (G : Nat → Nat) (k : Nat) : (nxB G k).2 ≤ 17 := by
  induction k with
  | zero => exact Nat.le_refl _
  | succ k ih =>
    by_cases h : G k < (nxB G k).2
    · rw [nxB_yes h]; show G k ≤ 17; omega
    · rw [nxB_no h]; exact ih
theorem nxB_range (G : Nat → Nat) (k : Nat) : -1 ≤ (nxB G k).1 ∧ (nxB G k).1 < (k : Int) := by
  induction k with
  | zero => exact ⟨Int.le_refl _, show (-1 : Int) < ((0 : Nat) : Int) by decide⟩
  | succ k ih =>
    by_cases h : G k < (nxB G k).2
    · rw [nxB_yes h]; show -1 ≤ (k : Int) ∧ (k : Int) < _; omega
    · rw [nxB_no h]; omega
theorem nxB_pos {G : Nat → Nat} (hG : ∀ k, G k ≤ 16) : ∀ {k : Nat}, 0 < k → 0 ≤ (nxB G k).1 := by
  intro k
  induction k with
  | zero => intro h; omega
  | succ k ih =>
    intro _
    by_cases h : G k < (nxB G k).2
    · rw [nxB_yes h]; show 0 ≤ (k : Int); omega
    · rw [nxB_no h]
      rcases Nat.eq_zero_or_pos k with e | e
      · subst e
        exact absurd (show G 0 < 17 by have := hG 0; omega) h
      · exact ih e
def nxC (F : Nat → Nat → ByteArray) (m : Nat) (xs : List Int) : Bool := tokB F m && decide (0 < m) && decide (0 < xs.length)
def nxI (F : Nat → Nat → ByteArray) (m : Nat) (xs : List Int) : Int := if nxC F m xs = true then (nxB (gG F xs) m).1 else -1
def NxP (F : Nat → Nat → ByteArray) (m : Nat) (xs : List Int) (w : World) (e : Ending) (w' : World) : Prop := e = .returned (.tuple #[.int .i64 (nxI F m xs), .bool (nxC F m xs)]) ∧ Below w.heap.size w w'
/-- What has been seen of the map: the lots that are no longer left. -/
def Seen (K : Nat → List UInt8) (m : Nat) (left : Lit → Bool) (y : Nat) : Prop :=
  (∀ l, left (.string l) = true → hasK K m l = true) ∧ (∀ j, j < m → left (.string (K j)) = false → cntK K m (K j) ≤ y) ∧ (y = 0 ∨ ∃ j, j < m ∧ y = cntK K m (K j))
theorem seen_zero {K : Nat → List UInt8} {m : Nat} {D : DataW Unit} (h : Lot K m D) : Seen K m (has D) 0 := by
  refine ⟨fun l hl => by rw [← h.2.1 l]; exact hl, fun j hj hf => ?_, Or.inl rfl⟩
  rw [h.2.1, hasK, List.any_eq_false] at hf
  exact absurd (by simp) (hf j (List.mem_range.2 hj))
theorem seen_step {K : Nat → List UInt8} {m : Nat} {left : Lit → Bool} {y : Nat} (h : Seen K m left y) {l : List UInt8} (hl : left (.string l) = true) : Seen K m (fun z => left z && !z.sameKey (.string l)) (max y (cntK K m l)) := by
  obtain ⟨h1, h2, h3⟩ := h
  have hk := h1 l hl
  unfold hasK at hk
  obtain ⟨j0, hj0, e0⟩ := List.any_eq_true.1 hk
  have e0 : K j0 = l := by simpa using e0
  have hj0 : j0 < m := List.mem_range.1 hj0
  refine ⟨fun z hz => h1 z (by simp only [Bool.and_eq_true] at hz; exact hz.1), fun j hj hf => ?_, ?_⟩
  · by_cases hj' : left (.string (K j)) = true
    · have hs : (Lit.string (K j) : Lit).sameKey (.string l) = true := by
        simp only [hj', Bool.true_and, Bool.not_eq_false'] at hf
        exact hf
      have e := WideAt.sameKey_eq hs
      injection e with e
      rw [e]
      omega
    · have := h2 j hj (by simpa using hj')
      omega
  · rcases Nat.le_total y (cntK K m l) with hle | hle
    · exact Or.inr ⟨j0, hj0, by rw [e0]; omega⟩
    · rcases h3 with rfl | ⟨j, hj, e⟩
      · exact Or.inl (by omega)
      · exact Or.inr ⟨j, hj, by omega⟩
theorem seen_end {K : Nat → List UInt8} {m : Nat} {left : Lit → Bool} {y : Nat} (h : Seen K m left y) (hl : ∀ z, left z = false) : y = wst K m m := wst_eq (fun j hj => h.2.1 j hj (hl _)) h.2.2

set_option maxRecDepth 20000 in
set_option maxHeartbeats 4000000 in
theorem iNext (w : World) (B : Nat) (v v2 : Value) (n m : Nat) (S F : Nat → Nat → ByteArray) (hR : Recs w B v n 3 (SV S)) (hR2 : Recs w B v2 m 3 (SV F)) (hBw : B ≤ w.heap.size)
    (hS : ∀ i, i < n → ∀ j, j < 3 → (S i j).size ≤ maxLen) (hF : ∀ i, i < m → ∀ j, j < 3 → (F i j).size ≤ maxLen) :
    Calls Tryd.prog 51 #[v, v2] w (NxP F m (wayL S n) w) := by
  have HW := Lib.hid (iWays w B v n S hR hBw hS)
  have HT := Lib.hid fun W hRw hBW => iTestsOk W B v2 m F hRw hBW hF
  have hr := wayL_range S n
  have hl : (wayL S n).length ≤ 16 := whL_length _ _
  clear hS hR
  generalize wayL S n = xs at *
  have HR2 := Lib.hid hR2
  obtain ⟨A, cap, rfl, hnc, hcm, hcell⟩ := hR2
  unfold maxLen at hcm
  have Hc := Lib.hid hcell
  clear hcell
  cases hk : tokB F m with
  | false =>
    have HC : Hid (nxC F m xs = false) := Lib.hid (by simp [nxC, hk])
    have HI : Hid (nxI F m xs = -1) := Lib.hid (by unfold nxI; rw [HC.out]; rfl)
    rw [hk] at HT
    clear hk hF
    go_enter Tryd.func51, Tryd.ntmps51
    go_wp2_with fail
    refine HW.out.mono ?_
    rintro e w1 ⟨v1, rfl, o1, b1⟩
    go_wp2_with fail
    refine (HT.out _ (HR2.out.below b1 hBw) (by have := b1.size; omega)).mono ?_
    rintro e w2 ⟨rfl, b2⟩
    have hB2 := below_own b1 b2 b1.size
    obtain ⟨A1, cap1, rfl, l1, m1, _⟩ := IntSl.of_own o1
    clear o1 b1 b2
    go_wp2_with fail
    go_ret2
    exact ⟨by rw [HC.out, HI.out]; rfl, hB2⟩
  | true =>
    rw [hk] at HT
    by_cases hm0 : m = 0
    · have HC : Hid (nxC F m xs = false) := Lib.hid (by simp [nxC, hm0])
      have HI : Hid (nxI F m xs = -1) := Lib.hid (by unfold nxI; rw [HC.out]; rfl)
      have hmi : ((m : Int) == 0) = true := by rw [beq_iff_eq]; omega
      clear hk hF hm0
      go_enter Tryd.func51, Tryd.ntmps51
      go_wp2_with fail
      refine HW.out.mono ?_
      rintro e w1 ⟨v1, rfl, o1, b1⟩
      go_wp2_with fail
      refine (HT.out _ (HR2.out.below b1 hBw) (by have := b1.size; omega)).mono ?_
      rintro e w2 ⟨rfl, b2⟩
      have hB2 := below_own b1 b2 b1.size
      obtain ⟨A1, cap1, rfl, l1, m1, _⟩ := IntSl.of_own o1
      clear o1 b1 b2
      go_wp2_with fail
      go_ret2
      exact ⟨by rw [HC.out, HI.out]; rfl, hB2⟩
    have hmi : ((m : Int) == 0) = false := by rw [beq_eq_false_iff_ne]; omega
    by_cases hz : xs.length = 0
    · have HC : Hid (nxC F m xs = false) := Lib.hid (by simp [nxC, hz])
      have HI : Hid (nxI F m xs = -1) := Lib.hid (by unfold nxI; rw [HC.out]; rfl)
      have hxi : ((xs.length : Int) == 0) = true := by rw [beq_iff_eq]; omega
      clear hk hF hm0 hz
      go_enter Tryd.func51, Tryd.ntmps51
      go_wp2_with fail
      refine HW.out.mono ?_
      rintro e w1 ⟨v1, rfl, o1, b1⟩
      go_wp2_with fail
      refine (HT.out _ (HR2.out.below b1 hBw) (by have := b1.size; omega)).mono ?_
      rintro e w2 ⟨rfl, b2⟩
      have hB2 := below_own b1 b2 b1.size
      obtain ⟨A1, cap1, rfl, l1, m1, _⟩ := IntSl.of_own o1
      clear o1 b1 b2
      go_wp2_with fail
      go_ret2
      exact ⟨by rw [HC.out, HI.out]; rfl, hB2⟩
    have hxi : ((xs.length : Int) == 0) = false := by rw [beq_eq_false_iff_ne]; omega
    have HC : Hid (nxC F m xs = true) := Lib.hid (by simp [nxC, hk]; omega)
    have HI : Hid (nxI F m xs = (nxB (gG F xs) m).1) := Lib.hid (by unfold nxI; rw [if_pos HC.out])
    have CL := Lib.hid fun k (hlt : k < m) W vv vw (hRw : Recs W W.heap.size vv 1 3 (SV fun _ => F k)) (hX : IntSl W W.heap.size vw xs) => show Calls Tryd.prog 77 #[vv, vw] W (LotsP (ansK (F k 0).data.toList (F k 1).data.toList xs) xs.length W) by
      have h := iLots W W.heap.size vv vw 1 (fun _ => F k) xs hRw hX (Nat.le_refl _) (fun i hi j hj => hF k hlt j hj) (tokB_good (by omega) fun j hj => show tokAt F k = true from tokB_at hk hlt) hr hl
      rwa [key_ans] at h
    have HN := Lib.hid fun k => nxB_le (gG F xs) k
    have HGk := Lib.hid fun k => show gG F xs k = wst (ansK (F k 0).data.toList (F k 1).data.toList xs) xs.length xs.length from rfl
    have HY := Lib.hid fun k (h : gG F xs k < (nxB (gG F xs) k).2) => nxB_yes h
    have HNo := Lib.hid fun k (h : ¬ gG F xs k < (nxB (gG F xs) k).2) => nxB_no h
    have HL16 := Lib.hid fun (K : Nat → List UInt8) l => cntK_le K xs.length l
    clear hk hF hm0 hr
    go_enter Tryd.func51, Tryd.ntmps51
    go_wp2_with fail
    refine HW.out.mono ?_
    rintro e w1 ⟨v1, rfl, o1, b1⟩
    go_wp2_with fail
    refine (HT.out _ (HR2.out.below b1 hBw) (by have := b1.size; omega)).mono ?_
    rintro e w2 ⟨rfl, b2⟩
    have hB2 := below_own b1 b2 b1.size
    have s1 := (IntSl.of_own o1).below b2 (Nat.le_refl _)
    have hs12 := b2.size
    obtain ⟨A1, cap1, rfl, l1, m1, r1⟩ := s1
    unfold maxLen at m1
    have R1 := Lib.hid (show IntSl w2 w1.heap.size (.slice A1 xs.length cap1) xs from ⟨A1, cap1, rfl, l1, by unfold maxLen; omega, r1⟩)
    clear o1 b1 b2 r1
    go_wp2_with fail
    go_loopg [7, 8, 9, 10, 11, 13, 31] m (fun g s7 s8 s9 s10 s11 s13 s31 wr => ∃ k l : Nat, ∃ x : Int, g + k = m ∧ s31 = .int .i64 k ∧ s7 = .int .i64 x ∧ s8 = .int .i64 l ∧ Hid (nxB (gG F xs) k = (x, l)) ∧ Below w2.heap.size w2 wr)
    case atStart => exact ⟨0, 17, -1, rfl, rfl, rfl, rfl, Lib.hid rfl, Below.refl _ _⟩
    case round =>
      obtain ⟨k, l, x, hkg, rfl, rfl, rfl, HX, hB⟩ := hrel
      by_cases hlt : k < m
      · obtain ⟨go, hgo⟩ : ∃ x, x = gk := ⟨_, rfl⟩
        obtain ⟨W1, rfl⟩ : ∃ x, x = wr := ⟨_, rfl⟩
        obtain ⟨b, o, rfl, hb, hc⟩ := Hc.out (by omega)
        have hBo := below_own hB2 hB hB2.size
        have hbw : b < w.heap.size := by omega
        have e0 := (hBo.cell (p := ⟨b, o + k * 3, none⟩) hbw).trans (hc k hlt 0 (by omega))
        have e1 := (hBo.cell (p := ⟨b, o + k * 3 + 1, none⟩) hbw).trans (hc k hlt 1 (by omega))
        have e2 := (hBo.cell (p := ⟨b, o + k * 3 + 2, none⟩) hbw).trans (hc k hlt 2 (by omega))
        simp only [SV] at e0 e1 e2
        have CLk := Lib.hid fun W vv vw hRw hX => CL.out k hlt W vv vw hRw hX
        have HGx := Lib.hid (HGk.out k)
        have hl17 := HN.out k
        rw [HX.out] at hl17
        have hl17 : l ≤ 17 := hl17
        have HYk := Lib.hid fun h => HY.out k (by rw [HX.out]; exact h)
        have HNk := Lib.hid fun h => HNo.out k (by rw [HX.out]; exact h)
        have HSV := Lib.hid (show ∀ i j, SV (fun _ => F k) i j = .string (F k j) from fun _ _ => rfl)
        clear hc hBo
        generalize ansK (F k 0).data.toList (F k 1).data.toList xs = K at *
        generalize gG F xs k = gk' at *
        generalize hq0 : F k 0 = q0 at *
        generalize hq1 : F k 1 = q1 at *
        generalize hq2 : F k 2 = q2 at *
        have Hq := Lib.hid (And.intro hq0 (And.intro hq1 hq2))
        clear hq0 hq1 hq2
        have hki : (k : Int) < (m : Int) := by omega
        have hX1 : Hid (IntSl (W1.alloc (.cells #[.string q0, .string q1, .string q2] 31)) w1.heap.size (.slice A1 xs.length cap1) xs) := Lib.hid (R1.out.below (hB.alloc hB.size _) hs12)
        have HB := Lib.hid (hB.alloc hB.size (.cells #[.string q0, .string q1, .string q2] 31))
        have hW : ∀ j u, (#[Value.string q0, .string q1, .string q2])[j]? = some u → (W1.alloc (.cells #[.string q0, .string q1, .string q2] 31)).cell? ⟨W1.heap.size, j, none⟩ = some u := fun j u hj => by rw [World.cell?_alloc_mark, hj]
        have f0 := hW 0 _ rfl
        have f1 := hW 1 _ rfl
        have f2 := hW 2 _ rfl
        have hs1 := hB.size
        clear hW hB
        go_wp2_with fail
        generalize hw1 : W1.alloc (.cells #[.string q0, .string q1, .string q2] 31) = wz at *
        have hwz : wz.heap.size = W1.heap.size + 1 := by rw [← hw1]; simp
        clear hw1 e0 e1 e2 f0 f1 f2 hX1
        have hB' := HB.out.alloc HB.out.size (.cells #[.string q0, .string q1, .string q2] 31)
        have hXz := (R1.out.below hB' hs12).mono (show w1.heap.size ≤ (wz.alloc (.cells #[.string q0, .string q1, .string q2] 31)).heap.size by have := hB'.size; omega)
        have hRz : Recs (wz.alloc (.cells #[.string q0, .string q1, .string q2] 31)) (wz.alloc (.cells #[.string q0, .string q1, .string q2] 31)).heap.size (.slice (some ⟨W1.heap.size + 1, 0, none⟩) 1 1) 1 3 (SV fun _ => F k) := by
          rw [← hwz]
          refine ⟨_, _, rfl, Nat.le_refl _, by decide, fun _ => ⟨wz.heap.size, 0, rfl, by simp, fun i hi j hj => ?_⟩⟩
          obtain rfl : i = 0 := by omega
          rw [HSV.out, World.cell?_alloc_mark]
          obtain ⟨rfl, rfl, rfl⟩ := Hq.out
          have : j = 0 ∨ j = 1 ∨ j = 2 := by omega
          rcases this with rfl | rfl | rfl <;> rfl
        clear HB Hq HSV
        refine (CLk.out _ _ _ hRz hXz).mono ?_
        rintro e w4 ⟨bm, D, rfl, hbm, hM, hL, b4⟩
        have hB4 := below_own hB' b4 hB'.size
        have HLt := Lib.hid hL
        clear hRz hXz b4 hB' CLk hL
        go_wp2_with (first | (at_range; refine wpList_range_own _ rfl _ 76 rfl 9 3 lawS Tryd.underlying76 _ bm xs.length D rfl hM ?_; intro w5 hrg0 hg0 hs0))
        go_frame
        have hB5 := hB4.grown hg0 hB4.size (fun j hj => by cases hj)
        have HS0 := Lib.hid (seen_zero HLt.out)
        obtain ⟨rr, hrr⟩ : ∃ x, x = w4.heap.size := ⟨_, rfl⟩
        rw [← hrr] at hrg0 ⊢
        have hrs : w2.heap.size ≤ rr := by have := hB4.size; omega
        clear hM hg0 hs0 hB4 hrr
        go_loopg [11, 13] (size D) (fun g s11 s13 wr => ∃ left : Lit → Bool, ∃ y : Nat, wr.ranges Tryd.prog 9 (plainElem Tryd.prog 3) bm rr xs.length D left g ∧ s11 = .int .i64 y ∧ Hid (Seen K xs.length left y) ∧ Below w2.heap.size w2 wr)
        case atStart => exact ⟨_, 0, hrg0, rfl, Lib.hid HS0.out, hB5⟩
        case round =>
          obtain ⟨left, y, hrg, rfl, HSn, hB⟩ := hrel
          have HB := Lib.hid hB
          clear hB
          go_wp2_with (at_next; refine wpList_next_ranges _ rfl _ rfl 9 lawS (plainElem Tryd.prog 3) Value.string (Value.int .i64) (fun key kl hk => by obtain ⟨s, e, _⟩ := Go.WideMaps.string_of_keyOf Tryd.underlying9 hk; exact ⟨s, e⟩) (fun v y hv => by obtain ⟨c, rfl, _⟩ := plainElem_int_inv Tryd.underlying3 hv; exact ⟨c, rfl⟩) bm rr xs.length _ _ _ rfl hrg ?_ ?_)
          · intro hc0 hl0
            have hyG : y = gk' := by rw [HGx.out]; exact seen_end HSn.out hl0
            subst hyG
            have hy16 : y ≤ 16 := by rw [HGx.out]; exact Nat.le_trans (wst_small _ _ _) hl
            clear HSn hrg hl0
            by_cases hyl : y < l
            · have hyi : (y : Int) < (l : Int) := by omega
              have HE := Lib.hid (HYk.out hyl)
              clear HYk HNk hyl
              go_wp2_with fail
              go_roundg (go - 1)
              case measure => omega
              case rel => exact ⟨k + 1, y, k, by omega, by go_num, rfl, rfl, Lib.hid HE.out, HB.out⟩
            · have hyi : ¬ (y : Int) < (l : Int) := by omega
              have HE := Lib.hid (HNk.out hyl)
              clear HYk HNk hyl
              go_wp2_with fail
              go_roundg (go - 1)
              case measure => omega
              case rel => exact ⟨k + 1, l, x, by omega, by go_num, rfl, rfl, Lib.hid (by rw [HE.out, HX.out]), HB.out⟩
          · intro z c kl yy ps w6 cnt1 hkey hlk hR6 hat hrg1 hlt1 hg1 hs6 hen
            obtain ⟨z', ez, rfl, _⟩ := Go.WideMaps.string_of_keyOf Tryd.underlying9 hkey
            injection ez with ez
            subst ez
            obtain ⟨c', ec, ey, _⟩ := plainElem_int_inv Tryd.underlying3 hR6
            injection ey with ey _
            subst ey
            injection ec with _ ec
            subst ec
            have hcn : c = (cntK K xs.length z.data.toList : Nat) := by
              have h1 := hat (.lit (.int .i64 0))
              rw [HLt.out.2.2.1] at h1
              injection h1 with h1
              injection h1 with _ h1
              exact h1.symm
            have HSt := Lib.hid (seen_step HSn.out hlk)
            have hcle := HL16.out K z.data.toList
            have hB6 := HB.out.grown hg1 HB.out.size (fun j hj => by cases hj; exact hrs)
            generalize cntK K xs.length z.data.toList = cn at *
            subst hcn
            have hyv : Hid ((y : Nat) ≤ 1000000 → True) := Lib.hid fun _ => trivial
            clear hrg hkey hlk hR6 hat hg1 HSn HB
            by_cases hyn : (y : Int) ≤ (cn : Int)
            · have HMx := Lib.hid (show max y cn = cn by omega)
              go_wp2_with fail
              go_roundg cnt1
              case measure => omega
              case rel => exact ⟨_, max y cn, hrg1, by rw [HMx.out]; first | rfl | (simp; omega), HSt, hB6⟩
            · have hyn' : (cn : Int) < (y : Int) := by omega
              have HMx := Lib.hid (show max y cn = y by omega)
              clear hyn
              go_wp2_with fail
              go_roundg cnt1
              case measure => omega
              case rel => exact ⟨_, max y cn, hrg1, by rw [HMx.out]; first | rfl | (simp; omega), HSt, hB6⟩
      · obtain rfl : k = m := by omega
        have HXe := Lib.hid (show (nxB (gG F xs) k).1 = x by rw [HX.out])
        go_wp2_with fail
        go_ret2
        exact ⟨by rw [HC.out, HI.out, HXe.out]; rfl, below_own hB2 hB hB2.size⟩
set_option maxRecDepth 20000 in
set_option maxHeartbeats 4000000 in
theorem sNext (w : World) (B : Nat) (v v2 : Value) (n m : Nat) (S F : Nat → Nat → ByteArray) (hR : Recs w B v n 3 (SV S)) (hR2 : Recs w B v2 m 3 (SV F)) (hBw : B ≤ w.heap.size)
    (hS : ∀ i, i < n → ∀ j, j < 3 → (S i j).size ≤ maxLen) (hF : ∀ i, i < m → ∀ j, j < 3 → (F i j).size ≤ maxLen) :
    Calls Tryd.prog 50 #[v, v2] w (NxP F m (wayL S n) w) := by
  have HW := Lib.hid (sWays w B v n S hR hBw hS)
  have HT := Lib.hid fun W hRw hBW => sTestsOk W B v2 m F hRw hBW hF
  have hr := wayL_range S n
  have hl : (wayL S n).length ≤ 16 := whL_length _ _
  clear hS hR
  generalize wayL S n = xs at *
  have HR2 := Lib.hid hR2
  obtain ⟨A, cap, rfl, hnc, hcm, hcell⟩ := hR2
  unfold maxLen at hcm
  have Hc := Lib.hid hcell
  clear hcell
  cases hk : nxC F m xs with
  | false =>
    have HI : Hid (nxI F m xs = -1) := Lib.hid (by unfold nxI; rw [hk]; rfl)
    have HK := Lib.hid hk
    have HT3 : Hid (m = 0 ∨ (0 < m ∧ tokB F m = false) ∨ (0 < m ∧ tokB F m = true ∧ xs.length = 0)) := Lib.hid (by
      unfold nxC at hk
      cases ht : tokB F m with
      | false =>
        rcases Nat.eq_zero_or_pos m with e | e
        · exact .inl e
        · exact .inr (.inl ⟨e, rfl⟩)
      | true =>
        rw [ht] at hk
        rcases Nat.eq_zero_or_pos m with e | e
        · exact .inl e
        · refine .inr (.inr ⟨e, rfl, ?_⟩)
          simp only [Bool.true_and, Bool.and_eq_false_iff, decide_eq_false_iff_not] at hk
          omega)
    clear hk hF hr
    generalize tokB F m = tk at *
    go_enter Tryd.func50, Tryd.ntmps50
    go_wp2_with fail
    refine HW.out.mono ?_
    rintro e w1 ⟨v1, rfl, o1, b1⟩
    obtain ⟨A1, cap1, rfl, l1, m1, _⟩ := IntSl.of_own o1
    unfold maxLen at m1
    clear o1
    go_wp2_with fail
    go_loopg [7, 8, 9, 10] 0 (fun g s7 s8 s9 s10 wr => s7 = .int .i64 (-1) ∧ s8 = .int .i64 (-1) ∧ s9 = .int .i64 0 ∧ Below w.heap.size w wr)
    case atStart => exact ⟨rfl, rfl, rfl, b1⟩
    case round =>
      obtain ⟨rfl, rfl, rfl, hB⟩ := hrel
      rcases HT3.out with hm | ⟨hm, rfl⟩ | ⟨hm, rfl, hx⟩
      · have hmi : ¬ (0 : Int) < (m : Int) := by omega
        have hmd : decide ((0 : Int) < (m : Int)) = false := decide_eq_false hmi
        clear hm
        go_wp2_with fail
        go_ret2
        exact ⟨by rw [HI.out, HK.out]; rfl, hB⟩
      · have hmi : (0 : Int) < (m : Int) := by omega
        have hmd : decide ((0 : Int) < (m : Int)) = true := decide_eq_true hmi
        have HTw := Lib.hid (HT.out wr (HR2.out.below hB hBw) (by have := hB.size; omega))
        clear hm
        go_wp2_with fail
        refine HTw.out.mono ?_
        rintro e w2 ⟨rfl, b2⟩
        have hB2 := below_own hB b2 hB.size
        clear hB
        go_wp2_with fail
        go_ret2
        exact ⟨by rw [HI.out, HK.out]; rfl, hB2⟩
      · have hmi : (0 : Int) < (m : Int) := by omega
        have hmd : decide ((0 : Int) < (m : Int)) = true := decide_eq_true hmi
        have hxd : decide ((0 : Int) < (xs.length : Int)) = false := decide_eq_false (by omega)
        have hxi : ¬ (0 : Int) < (xs.length : Int) := by omega
        have HTw := Lib.hid (HT.out wr (HR2.out.below hB hBw) (by have := hB.size; omega))
        clear hm hx
        go_wp2_with fail
        refine HTw.out.mono ?_
        rintro e w2 ⟨rfl, b2⟩
        have hB2 := below_own hB b2 hB.size
        clear hB
        go_wp2_with fail
        go_ret2
        exact ⟨by rw [HI.out, HK.out]; rfl, hB2⟩
  | true =>
    have HI : Hid (nxI F m xs = (nxB (gG F xs) m).1) := Lib.hid (by unfold nxI; rw [if_pos hk])
    have HK := Lib.hid hk
    have hk3 : tokB F m = true ∧ 0 < m ∧ 0 < xs.length := by
      unfold nxC at hk
      simp only [Bool.and_eq_true, decide_eq_true_eq] at hk
      exact ⟨hk.1.1, hk.1.2, hk.2⟩
    obtain ⟨ht, hm, hx⟩ := hk3
    rw [ht] at HT
    have HG16 : ∀ k, gG F xs k ≤ 16 := fun k => Nat.le_trans (wst_small _ _ _) hl
    have HPo := Lib.hid (nxB_pos HG16 hm)
    have CW := Lib.hid fun k (hlt : k < m) W vw (hX : IntSl W W.heap.size vw xs) => show Calls Tryd.prog 83 #[vw, .string (F k 0), .string (F k 1)] W (fun e w' => e = .returned (.int .i64 (gG F xs k : Nat)) ∧ Below W.heap.size W w') from
      sWorst W W.heap.size vw xs (F k 0) (F k 1) (hF k hlt 0 (by omega)) (hF k hlt 1 (by omega)) hX (Nat.le_refl _) (show takB (F k 0).data.toList (F k 1).data.toList = true from tokB_at ht hlt) hr hl
    have HG := Lib.hid HG16
    have HN := Lib.hid fun k => nxB_le (gG F xs) k
    have HY := Lib.hid fun k (h : gG F xs k < (nxB (gG F xs) k).2) => nxB_yes h
    have HNo := Lib.hid fun k (h : ¬ gG F xs k < (nxB (gG F xs) k).2) => nxB_no h
    clear hk hF hr ht HG16
    have hxi : (0 : Int) < (xs.length : Int) := by omega
    have hxd : decide ((0 : Int) < (xs.length : Int)) = true := decide_eq_true hxi
    go_enter Tryd.func50, Tryd.ntmps50
    go_wp2_with fail
    refine HW.out.mono ?_
    rintro e w1 ⟨v1, rfl, o1, b1⟩
    have R1 := Lib.hid (IntSl.of_own o1)
    obtain ⟨A1, cap1, rfl, l1, m1, _⟩ := IntSl.of_own o1
    unfold maxLen at m1
    have hs1 := b1.size
    clear o1
    go_wp2_with fail
    go_loopg [7, 8, 9, 10] m (fun g s7 s8 s9 s10 wr => ∃ k : Nat, ∃ x l : Int, g + k = m ∧ s9 = .int .i64 k ∧ s7 = .int .i64 x ∧ s8 = .int .i64 l ∧ Hid (∃ l' : Nat, nxB (gG F xs) k = (x, l') ∧ l = if k = 0 then -1 else (l' : Int)) ∧ Below w1.heap.size w1 wr)
    case atStart => exact ⟨0, -1, -1, rfl, rfl, rfl, rfl, Lib.hid ⟨17, rfl, rfl⟩, Below.refl _ _⟩
    case round =>
      obtain ⟨k, x, l, hkg, rfl, rfl, rfl, HX, hB⟩ := hrel
      have hBo := below_own b1 hB hs1
      by_cases hlt : k < m
      · obtain ⟨b, o, rfl, hb, hc⟩ := Hc.out (by omega)
        have hki : (k : Int) < (m : Int) := by omega
        have hkd : decide ((k : Int) < (m : Int)) = true := decide_eq_true hki
        have HTw := Lib.hid (HT.out wr (HR2.out.below hBo hBw) (by have := hBo.size; omega))
        have CWk := Lib.hid fun W vw hX => CW.out k hlt W vw hX
        have hg16 := HG.out k
        have HYk : Hid ((l < 0 ∨ (gG F xs k : Int) < l) → nxB (gG F xs) (k + 1) = ((k : Int), gG F xs k)) := Lib.hid fun h => by
          obtain ⟨l', e1, e2⟩ := HX.out
          refine HY.out k ?_
          rw [e1]
          show gG F xs k < l'
          by_cases k0 : k = 0
          · subst k0
            have e3 : (nxB (gG F xs) 0).2 = l' := by rw [e1]
            have e4 : (17 : Nat) = l' := e3
            omega
          · rw [if_neg k0] at e2
            omega
        have HNk : Hid (0 ≤ l → ¬ (gG F xs k : Int) < l → nxB (gG F xs) (k + 1) = (x, l.toNat) ∧ l = (l.toNat : Int)) := Lib.hid fun h0 h => by
          obtain ⟨l', e1, e2⟩ := HX.out
          by_cases k0 : k = 0
          · rw [if_pos k0] at e2; omega
          · rw [if_neg k0] at e2
            subst e2
            refine ⟨?_, by simp⟩
            rw [HNo.out k (by rw [e1]; show ¬ gG F xs k < l'; omega), e1]
            simp
        have hl17 : l ≤ 17 := by
          obtain ⟨l', e1, e2⟩ := HX.out
          have := HN.out k
          rw [e1] at this
          have this : l' ≤ 17 := this
          rw [e2]; split <;> omega
        have hl1 : -1 ≤ l := by
          obtain ⟨l', e1, e2⟩ := HX.out
          rw [e2]; split <;> omega
        have hbw : b < w.heap.size := by omega
        have E0 := Lib.hid fun (W : World) (hW : Below w.heap.size w W) => (hW.cell (p := ⟨b, o + k * 3, none⟩) hbw).trans (hc k hlt 0 (by omega))
        have E1 := Lib.hid fun (W : World) (hW : Below w.heap.size w W) => (hW.cell (p := ⟨b, o + k * 3 + 1, none⟩) hbw).trans (hc k hlt 1 (by omega))
        simp only [SV] at E0 E1
        have HB := Lib.hid hB
        have HBo := Lib.hid hBo
        clear hc hB hBo
        generalize gG F xs k = gv at *
        generalize F k 0 = q0 at *
        generalize F k 1 = q1 at *
        go_wp2_with fail
        refine HTw.out.mono ?_
        rintro e w2 ⟨rfl, b2⟩
        have hB2 := below_own HB.out b2 HB.out.size
        have hB2o := below_own HBo.out b2 HBo.out.size
        have e0 := E0.out w2 hB2o
        have e1 := E1.out w2 hB2o
        have HBx := Lib.hid hB2
        have HX2 := Lib.hid fun W (hW : Below w1.heap.size w1 W) => (R1.out.below hW (Nat.le_refl _)).mono (show w1.heap.size ≤ W.heap.size from hW.size)
        have w1' : b < w2.heap.size := by have := hB2o.size; omega
        clear HTw HB HBo E0 E1 hB2 hB2o b2
        go_wp2_with fail
        go_region_held3 (fun w' => w'.cell? ⟨b, o + k * 3, none⟩ = some (.string q0) ∧ w'.cell? ⟨b, o + k * 3 + 1, none⟩ = some (.string q1))
          (go_keep)
          (first | (go_at_call 83; refine (CWk.out _ _ (by first | exact HX2.out _ HBx.out | exact HX2.out _ HBx.out.drew)).mono ?_; rintro e w3 ⟨rfl, q3⟩; have g0 := (q3.cell (p := ⟨b, o + k * 3, none⟩) w1').trans e0; have g1 := (q3.cell (p := ⟨b, o + k * 3 + 1, none⟩) w1').trans e1))
        have HB3 : Hid (Below w1.heap.size w1 w3) := Lib.hid (by first | exact below_own HBx.out q3 HBx.out.size | exact below_own HBx.out.drew q3 HBx.out.size)
        by_cases hl0 : l < 0
        · have HE := Lib.hid (HYk.out (Or.inl hl0))
          clear HYk HNk HX
          go_wp2_with fail
          go_roundg (gk - 1)
          case measure => omega
          case rel => exact ⟨k + 1, k, gv, by omega, by go_num, rfl, rfl, Lib.hid ⟨gv, HE.out, by rw [if_neg (by omega)]⟩, HB3.out⟩
        · have hl0' : 0 ≤ l := by omega
          clear hl0
          by_cases hgl : (gv : Int) < l
          · have HE := Lib.hid (HYk.out (Or.inr hgl))
            clear HYk HNk HX
            go_wp2_with fail
            go_roundg (gk - 1)
            case measure => omega
            case rel => exact ⟨k + 1, k, gv, by omega, by go_num, rfl, rfl, Lib.hid ⟨gv, HE.out, by rw [if_neg (by omega)]⟩, HB3.out⟩
          · have HE := Lib.hid (HNk.out hl0' (by omega))
            clear HYk HNk HX
            go_wp2_with fail
            go_roundg (gk - 1)
            case measure => omega
            case rel => exact ⟨k + 1, x, l, by omega, by go_num, rfl, rfl, Lib.hid ⟨l.toNat, HE.out.1, by rw [if_neg (by omega)]; exact HE.out.2⟩, HB3.out⟩
      · obtain rfl : k = m := by omega
        have hki : ¬ (k : Int) < (k : Int) := by omega
        have hxp : Hid (0 ≤ x ∧ nxI F k xs = x) := Lib.hid (by
          obtain ⟨l', e1, _⟩ := HX.out
          have h := HPo.out
          rw [HI.out]
          rw [e1] at h ⊢
          exact ⟨h, rfl⟩)
        have hx0 := hxp.out.1
        go_wp2_with fail
        go_ret2
        exact ⟨by rw [hxp.out.2, HK.out]; simp [hx0], hBo⟩
set_option maxRecDepth 20000 in
set_option maxHeartbeats 4000000 in
theorem law_ExactNextTest (A : Option Addr) (len cap : Nat) (A2 : Option Addr) (len2 cap2 : Nat) (w : World) (hin : RecsIn Tryd.prog w A len cap 3 StrField) (hin2 : RecsIn Tryd.prog w A2 len2 cap2 3 StrField) :
    Calls Tryd.prog 13 #[.slice A len cap, .slice A2 len2 cap2] w fun e w' => e = .returned (.bool true) ∧ Below w.heap.size w w' := by
  obtain ⟨S, hR, hS⟩ := tests_in hin
  obtain ⟨F, hQ, hF⟩ := tests_in hin2
  have HS := Lib.hid hS
  have HF := Lib.hid hF
  have CI := Lib.hid fun W B v v2 hRw hRw2 hBW => iNext W B v v2 len len2 S F hRw hRw2 hBW hS hF
  have CS := Lib.hid fun W B v v2 hRw hRw2 hBW => sNext W B v v2 len len2 S F hRw hRw2 hBW hS hF
  clear hin hin2 hS hF
  generalize wayL S len = xs at *
  unfold NxP at CI CS
  generalize nxC F len2 xs = sb at *
  generalize nxI F len2 xs = si at *
  go_enter Tryd.func13, Tryd.ntmps13
  go_wp2_with fail
  refine (szTestS_any _ _ _ len S _ hR (Nat.le_refl _) HS.out (by omega) (by omega)).mono ?_
  rintro e w0 ⟨r, rfl, hr0, hr1, hr2, b0⟩
  by_cases hbig : r < 0
  · go_wp2_with fail
    go_ret
    exact ⟨rfl, b0⟩
  have hpos : 0 ≤ r := by omega
  have hs : len ≤ 1048576 := hr2 hpos
  clear hbig hr2
  have hQ0 := hQ.below b0 (Nat.le_refl _)
  go_wp2_with fail
  refine (szTestS_any _ _ _ len2 F _ hQ0 b0.size HF.out (by omega) (by omega)).mono ?_
  rintro e w00 ⟨r2, rfl, hr20, hr21, hr22, b00⟩
  have hB00 := below_own b0 b00 b0.size
  by_cases hbig2 : r2 < 0
  · go_wp2_with fail
    go_ret
    exact ⟨rfl, hB00⟩
  have hpos2 : 0 ≤ r2 := by omega
  have hs2 : len2 ≤ 1048576 := hr22 hpos2
  clear hbig2 hr22 hQ0 b0 b00
  have hR0 := hR.below hB00 (Nat.le_refl _)
  have hz0 := hB00.size
  go_wp2_with fail
  refine (toTestS_any _ _ _ _ S hR0 hz0 hs).mono ?_
  rintro e w1 ⟨v1, rfl, o1, b1⟩
  have hB1 := below_own hB00 b1 hz0
  have hz1 := hB1.size
  have hQ1 := hQ.below hB1 (Nat.le_refl _)
  go_wp2_with fail
  refine (toTestS_any _ _ _ _ F hQ1 hz1 hs2).mono ?_
  rintro e w2 ⟨v2, rfl, o2, b2⟩
  have hB2 := below_own hB1 b2 hz1
  have hz2 := hB2.size
  have r1 := ((Recs.of_own o1).below b2 (Nat.le_refl _)).mono (show w1.heap.size ≤ w2.heap.size from b2.size)
  have r2 := Recs.of_own o2
  clear hR0 hQ1 o1 o2 b1 b2 hB00 hz0 hB1 hz1
  go_wp2_with fail
  refine (CS.out _ _ v1 v2 r1 r2 (Nat.le_refl _)).mono ?_
  rintro e w3 ⟨rfl, b3⟩
  have hB3 := below_own hB2 b3 hz2
  have hz3 := hB3.size
  have hR3 := hR.below hB3 (Nat.le_refl _)
  clear r1 r2 b3 hB2 hz2
  go_wp2_with fail
  refine (toTestS_any _ _ _ _ S hR3 hz3 hs).mono ?_
  rintro e w4 ⟨v4, rfl, o4, b4⟩
  have hB4 := below_own hB3 b4 hz3
  have hz4 := hB4.size
  have hQ4 := hQ.below hB4 (Nat.le_refl _)
  go_wp2_with fail
  refine (toTestS_any _ _ _ _ F hQ4 hz4 hs2).mono ?_
  rintro e w5 ⟨v5, rfl, o5, b5⟩
  have hB5 := below_own hB4 b5 hz4
  have hz5 := hB5.size
  have r4 := ((Recs.of_own o4).below b5 (Nat.le_refl _)).mono (show w4.heap.size ≤ w5.heap.size from b5.size)
  have r5 := Recs.of_own o5
  clear hR3 hQ4 o4 o5 b4 b5 hB3 hz3 hB4 hz4
  go_wp2_with fail
  refine (CI.out _ _ v4 v5 r4 r5 (Nat.le_refl _)).mono ?_
  rintro e w6 ⟨rfl, b6⟩
  have hB6 := below_own hB5 b6 hz5
  have hz6 := hB6.size
  have s4 := (r4.below b6 (Nat.le_refl _)).mono (show w5.heap.size ≤ w6.heap.size from b6.size)
  have s5 := (r5.below b6 (Nat.le_refl _)).mono (show w5.heap.size ≤ w6.heap.size from b6.size)
  have hR6 := hR.below hB6 (Nat.le_refl _)
  clear r4 r5 b6 hB5 hz5
  go_wp2_with fail
  refine (toTestS_any _ _ _ _ S hR6 hz6 hs).mono ?_
  rintro e w7 ⟨v7, rfl, o7, b7⟩
  have hB7 := below_own hB6 b7 hz6
  have s47 := s4.below b7 (Nat.le_refl _)
  have s57 := s5.below b7 (Nat.le_refl _)
  have hz7 := b7.size
  clear s4 s5 hR6
  go_wp2_with fail
  refine (eqTestS_t _ w7.heap.size _ _ len S (s47.mono hz7) (Recs.of_own o7) (Nat.le_refl _)).mono ?_
  rintro e w8 ⟨rfl, b8⟩
  have hB8 := below_own hB7 b8 hB7.size
  have hz8 := hB8.size
  have s58 := s57.below b8 hz7
  have hQ8 := hQ.below hB8 (Nat.le_refl _)
  have hz78 := b8.size
  clear s47 s57 o7 b7 b8 hB6 hB7
  go_wp2_with fail
  refine (toTestS_any _ _ _ _ F hQ8 hz8 hs2).mono ?_
  rintro e w9 ⟨v9, rfl, o9, b9⟩
  have hB9 := below_own hB8 b9 hz8
  have s59 := s58.below b9 (by omega)
  go_wp2_with fail
  refine (eqTestS_t _ w9.heap.size _ _ len2 F (s59.mono (by have := b9.size; omega)) (Recs.of_own o9) (Nat.le_refl _)).mono ?_
  rintro e w10 ⟨rfl, b10⟩
  go_wp2_with fail
  go_ret
  exact ⟨rfl, below_own hB9 b10 hB9.size⟩
end Go.Proofs.YtfhefngpeknhlaaDoor
