/- The walks of DividedOf, of the program and of the reference. -/
import Derived.Test.YtfmfjbphflkhiaaDoorNumW
import Derived.Test.YtfmfjbphflkhiaaDoorStepS
import Derived.Deep.RegionHeld3
import Derived.Deep.AppendLies
namespace Go.Proofs.YtfmfjbphflkhiaaDoor
set_option linter.unusedVariables false
set_option linter.unusedSimpArgs false
open Go.RowKit

/-- The digit at place k from the front. -/
def dA (bs : List UInt8) (k : Nat) : Int := ((bs.getD k 0).toNat : Int) - 48
/-- What is left before step k. -/
def dvL (bs : List UInt8) (d : Int) : Nat → Int
  | 0 => 0
  | k + 1 => (10 * dvL bs d k + dA bs k) % d
/-- The transcript's numbers. -/
def dvF (bs : List UInt8) (d : Int) (i j : Nat) : Int :=
  if j = 0 then dvL bs d i else if j = 1 then dA bs i else if j = 2 then (10 * dvL bs d i + dA bs i) / d else dvL bs d (i + 1)
def dvN (s : ByteArray) (d : Int) : Nat := if numB s.data.toList = true ∧ 1 ≤ d ∧ d ≤ 99 then s.size else 0
theorem dvN_len (s : ByteArray) (d : Int) : dvN s d ≤ 9 := by
  unfold dvN
  split
  · rename_i h; have := numB_len h.1; rw [str_len] at this; omega
  · omega
theorem dvL_range (bs : List UInt8) (d : Int) (hd : 1 ≤ d) (k : Nat) : 0 ≤ dvL bs d k ∧ dvL bs d k < d := by
  cases k with
  | zero => exact ⟨Int.le_refl 0, show (0 : Int) < d by omega⟩
  | succ k => exact ⟨Int.emod_nonneg _ (by omega), Int.emod_lt_of_pos _ (by omega)⟩
theorem recCells4_succ (F : Nat → Nat → Int) (n : Nat) : recCells 4 (IV F) (n + 1) = recCells 4 (IV F) n ++ [.int .i64 (F n 0), .int .i64 (F n 1), .int .i64 (F n 2), .int .i64 (F n 3)] := by
  rw [recCells_succ]; rfl
theorem dA_at (s : ByteArray) (k : Nat) (h : k < s.size) : dA s.data.toList k = (s[k].toNat : Int) - 48 := by unfold dA; rw [str_at s k h]
/-- One step's four cells. -/
theorem dv_cells (s : ByteArray) (d : Int) (k : Nat) (h : k < s.size) (L x : Int) (hL : dvL s.data.toList d k = L) (hx : (s[k].toNat : Int) - 48 = x) :
    recCells 4 (IV (dvF s.data.toList d)) (k + 1) = recCells 4 (IV (dvF s.data.toList d)) k ++ [.int .i64 L, .int .i64 x, .int .i64 ((10 * L + x) / d), .int .i64 ((10 * L + x) % d)] := by
  rw [recCells4_succ]
  have e : dA s.data.toList k = x := by rw [dA_at s k h, hx]
  simp [dvF, dvL, hL, e]
theorem dv_next (s : ByteArray) (d : Int) (k : Nat) (h : k < s.size) (L x : Int) (hL : dvL s.data.toList d k = L) (hx : (s[k].toNat : Int) - 48 = x) : dvL s.data.toList d (k + 1) = (10 * L + x) % d := by
  simp [dvL, hL, dA_at s k h, hx]

theorem cells_new (w : World) (cs : Array Value) (xs : List Value) (t : TypeId) (h : cs.toList = xs) : ∀ j u, xs[j]? = some u → (w.alloc (.cells cs t)).cell? ((⟨w.heap.size, 0, none⟩ : Addr).add j) = some u := by
  intro j u hj
  subst h
  rw [Go.WideShapes.add_plain, cell_of_row _ _ _ cs t (0, 0) (heap_alloc_new w _)]
  simpa using hj
def StepsPost (n : Nat) (F : Nat → Nat → Int) (w : World) (e : Ending) (w' : World) : Prop := ∃ v, e = .returned v ∧ Own w' w.heap.size 100 4 v n (recCells 4 (IV F) n) ∧ Below w.heap.size w w'

theorem clip_any (v : Value) (n : Nat) (base : Nat) (xs : List Value) (w : World) (h : Own w base 100 4 v n xs) :
    Calls Tryd.prog 89 #[v] w fun e w' => ∃ v', e = .returned v' ∧ Own w base 100 4 v' n xs ∧ w = w' := by
  obtain ⟨h1, h2⟩ := h
  rcases h2 with ⟨rfl, rfl⟩ | ⟨g, cap, cur, rfl, hb, hg, hnc, hcm, hcs, ht⟩
  · go_enter Tryd.func89, Tryd.ntmps89
    go_wp2_with fail
    go_ret
    exact ⟨_, rfl, ⟨h1, .inl ⟨rfl, rfl⟩⟩, rfl⟩
  · have hcm' := hcm
    unfold maxLen at hcm'
    go_enter Tryd.func89, Tryd.ntmps89
    go_wp2_with fail
    go_ret
    exact ⟨_, rfl, ⟨h1, .inr ⟨g, n, cur, rfl, hb, hg, Nat.le_refl _, by omega, hcs, ht⟩⟩, rfl⟩

set_option maxHeartbeats 2000000 in
theorem iDivided (s : ByteArray) (hs : s.size ≤ maxLen) (d : Int) (w : World) : Calls Tryd.prog 68 #[.string s, .int .i64 d] w (StepsPost (dvN s d) (dvF s.data.toList d) w) := by
  have hN := fun W => iNum s hs W
  by_cases hn : numB s.data.toList = true
  rotate_left
  · have hn' : numB s.data.toList = false := by simpa using hn
    have e0 : dvN s d = 0 := if_neg fun h => hn h.1
    rw [e0]
    rw [hn'] at hN
    clear hn hn' e0
    have HN := Lib.hid hN
    clear hN
    go_enter Tryd.func68, Tryd.ntmps68
    go_wp2_with fail
    refine (HN.out _).mono ?_
    rintro e w' ⟨rfl, rfl⟩
    go_wp2_with fail
    go_ret
    exact ⟨_, rfl, by rw [recCells_zero]; exact Own.nil _ _ _ _, Below.refl _ _⟩
  rw [hn] at hN
  have HN := Lib.hid hN
  clear hN
  by_cases hd : 1 ≤ d ∧ d ≤ 99
  rotate_left
  · have e0 : dvN s d = 0 := if_neg fun h => hd h.2
    rw [e0]
    have hd' : d < 1 ∨ 99 < d := by omega
    clear hn e0 hd
    go_enter Tryd.func68, Tryd.ntmps68
    go_wp2_with fail
    refine (HN.out _).mono ?_
    rintro e w' ⟨rfl, rfl⟩
    go_wp2_with (go_at_call 37; ((with_reducible refine (in_f _ _ _ _ ?_).mono ?_)); (omega); rintro e w' ⟨rfl, rfl⟩)
    go_ret
    exact ⟨_, rfl, by rw [recCells_zero]; exact Own.nil _ _ _ _, Below.refl _ _⟩
  have e0 : dvN s d = s.size := if_pos ⟨hn, hd⟩
  rw [e0]
  obtain ⟨hd1, hd2⟩ := hd
  have hall := Lib.hid (numB_all hn)
  have hln := numB_len hn
  rw [str_len] at hln
  obtain ⟨l1, l2⟩ := hln
  clear hs hn e0
  obtain ⟨i0, hi, hz0, hz1, hz2⟩ := info_parts infoStep
  go_enter Tryd.func68, Tryd.ntmps68
  go_wp2_with fail
  refine (HN.out _).mono ?_
  rintro e w' ⟨rfl, rfl⟩
  go_wp2_with (go_at_call 37; ((with_reducible refine (in_t _ _ _ _ ?_ ?_).mono ?_)); (omega); (omega); rintro e w' ⟨rfl, rfl⟩)
  go_loopg [5, 6, 7, 8, 9, 20] s.size (fun g s5 s6 s7 s8 s9 s20 wr => ∃ k : Nat, g + k = s.size ∧ s6 = .int .i64 (dvL s.data.toList d k) ∧ s20 = .int .i64 k ∧ wr.ownsRow w.heap.size 100 4 s5 k (recCells 4 (IV (dvF s.data.toList d)) k) ∧ Below w.heap.size w wr)
  case atStart => exact ⟨0, rfl, rfl, rfl, by rw [recCells_zero]; exact World.ownsRow_nil w _ _ _, Below.refl _ _⟩
  case round =>
    obtain ⟨k, hk, rfl, rfl, hown, hnx⟩ := hrel
    by_cases hlt : k < s.size
    · have hr := dvL_range s.data.toList d hd1 k
      have hx0 := hall.out _ (str_mem s k hlt)
      have HC := Lib.hid (dv_cells s d k hlt _ _ rfl rfl)
      have HL := Lib.hid (dv_next s d k hlt _ _ rfl rfl)
      generalize dvL s.data.toList d k = L at *
      obtain ⟨hr0, hr1⟩ := hr
      obtain ⟨hx1, hx2⟩ := hx0
      have hX0 : 0 ≤ 10 * L + ((s[k].toNat : Int) - 48) := by omega
      have hX1 : 10 * L + ((s[k].toNat : Int) - 48) ≤ 1000 := by omega
      go_wp2_with fail
      generalize HX : (s[k].toNat : Int) - 48 = x at *
      generalize HN0 : 10 * L + x = n at *
      have hq0 : 0 ≤ n / d := Int.ediv_nonneg hX0 (by omega)
      have hq1 : n / d ≤ 1000 := Int.le_trans (Int.ediv_le_self d hX0) hX1
      have kq : n.tdiv d = n / d := Int.tdiv_eq_ediv_of_nonneg hX0
      have kr : n.tmod d = n % d := Int.tmod_eq_emod_of_nonneg hX0
      generalize HQ : n / d = q at *
      generalize HR : n % d = r at *
      have kw : IntKind.i64.wrap q = q := IntWalk.i64_in _ (by omega)
      have hd0 : (d == 0) = false := by simp; omega
      have hd1' : ¬ d = 0 := by omega
      clear HX HN0
      go_region_held3 (fun _ => True) (trivial)
        ((refine step_append_lies _ (by rfl) _ _ 79 (by rfl) w.heap.size 100 i0 _ 4 32 Tryd.underlying79 hi hz0 hz1 hz2 rfl (by decide) u5 k (recCells 4 (IV (dvF s.data.toList d)) k) (by rfl) ((hown.alloc _).drew) ⟨wr.heap.size, 0, none⟩ 1 1 [.int .i64 L, .int .i64 x, .int .i64 q, .int .i64 r] (by rfl) (by rfl) (World.news_of_block (cs := #[.int .i64 L, .int .i64 x, .int .i64 q, .int .i64 r]) (t := 100) (fr := (0, 0)) (heap_alloc_new wr _)) (by simp [Value.oneCell']) (by omega) (by unfold maxLen; omega) (by omega) (by have := hnx.size; simp; omega) (wr.heap.size + 1) (by simp) ?_; intro gg cap w1 hown' hgrow hat hlt'))
      go_wp2_with fail
      have hb1 := ((hnx.alloc hnx.size _).drew).grown hgrow (by have := hnx.size; simp; omega) (fun j hj => (hown.lt j hj).1)
      go_roundg (gk - 1)
      case measure => omega
      case rel => exact ⟨k + 1, by omega, by rw [HL.out], by go_num, by rw [HC.out]; exact hown', hb1⟩
    · obtain rfl : k = s.size := by omega
      go_wp2_with fail
      refine (clip_any _ _ _ _ _ (Own.of_row hown)).mono ?_
      rintro e w2 ⟨v', rfl, ho', rfl⟩
      go_wp2_with fail
      go_ret
      exact ⟨_, rfl, ho', hnx⟩

set_option maxHeartbeats 2000000 in
theorem sDivided (s : ByteArray) (hs : s.size ≤ maxLen) (d : Int) (w : World) : Calls Tryd.prog 70 #[.string s, .int .i64 d] w (StepsPost (dvN s d) (dvF s.data.toList d) w) := by
  have hN := fun W => sNum s hs W
  have hnew := Own.of_row <| owns_new w w.heap.size 100 4 0 #[] (Nat.le_refl _) (by decide) rfl
  have hbel := (Below.refl w.heap.size w).alloc (Nat.le_refl _) (.cells #[] 100)
  unfold maxLen at hs
  by_cases hz : s.size = 0
  · have e0 : dvN s d = 0 := by unfold dvN; split <;> simp_all
    rw [e0]
    clear e0 hN
    go_enter Tryd.func70, Tryd.ntmps70
    go_wp2_with fail
    refine wp_loop_rounds 1 ?_
    rw [rounds_succ]
    go_wp2_with fail
    go_ret
    exact ⟨_, rfl, by rw [recCells_zero]; exact hnew, hbel⟩
  have hz1 : 0 < s.size := by omega
  clear hz
  by_cases hn : numB s.data.toList = true
  rotate_left
  · have hn' : numB s.data.toList = false := by simpa using hn
    have e0 : dvN s d = 0 := if_neg fun h => hn h.1
    rw [e0]
    rw [hn'] at hN
    clear hn hn' e0
    have HN := Lib.hid hN
    clear hN
    go_enter Tryd.func70, Tryd.ntmps70
    go_wp2_with fail
    refine wp_loop_rounds 1 ?_
    rw [rounds_succ]
    go_wp2_with fail
    refine (HN.out _).mono ?_
    rintro e w' ⟨rfl, rfl⟩
    go_wp2_with fail
    go_ret
    exact ⟨_, rfl, by rw [recCells_zero]; exact hnew, hbel⟩
  rw [hn] at hN
  have HN := Lib.hid hN
  clear hN
  by_cases hd : 1 ≤ d ∧ d ≤ 99
  rotate_left
  · have e0 : dvN s d = 0 := if_neg fun h => hd h.2
    rw [e0]
    have hd' : d < 1 ∨ 99 < d := by omega
    clear hn e0 hd
    go_enter Tryd.func70, Tryd.ntmps70
    go_wp2_with fail
    refine wp_loop_rounds 1 ?_
    rw [rounds_succ]
    go_wp2_with fail
    refine (HN.out _).mono ?_
    rintro e w' ⟨rfl, rfl⟩
    go_wp2_with (go_at_call 44; ((with_reducible refine (sin_f _ _ _ _ ?_).mono ?_)); (omega); rintro e w' ⟨rfl, rfl⟩)
    go_ret
    exact ⟨_, rfl, by rw [recCells_zero]; exact hnew, hbel⟩
  have e0 : dvN s d = s.size := if_pos ⟨hn, hd⟩
  rw [e0]
  obtain ⟨hd1, hd2⟩ := hd
  have hall := Lib.hid (numB_all hn)
  have hln := numB_len hn
  rw [str_len] at hln
  obtain ⟨l1, l2⟩ := hln
  clear hn e0 hs hnew
  obtain ⟨i0, hi, hz0, hz1, hz2⟩ := info_parts infoStep
  go_enter Tryd.func70, Tryd.ntmps70
  go_wp2_with fail
  go_loopg [5, 6, 7, 8] s.size (fun g s5 s6 s7 s8 wr => ∃ k : Nat, g + k = s.size ∧ s6 = .int .i64 (dvL s.data.toList d k) ∧ s7 = .int .i64 k ∧ wr.ownsRow w.heap.size 100 4 s5 k (recCells 4 (IV (dvF s.data.toList d)) k) ∧ Below w.heap.size w wr)
  case atStart => exact ⟨0, rfl, rfl, rfl, by rw [recCells_zero]; exact owns_new w w.heap.size 100 4 0 #[] (Nat.le_refl _) (by decide) rfl, hbel⟩
  case round =>
    obtain ⟨k, hk, rfl, rfl, hown, hnx⟩ := hrel
    by_cases hlt : k < s.size
    · have hr := dvL_range s.data.toList d hd1 k
      have hx0 := hall.out _ (str_mem s k hlt)
      have HC := Lib.hid (dv_cells s d k hlt _ _ rfl rfl)
      have HL := Lib.hid (dv_next s d k hlt _ _ rfl rfl)
      generalize dvL s.data.toList d k = L at *
      obtain ⟨hr0, hr1⟩ := hr
      obtain ⟨hx1, hx2⟩ := hx0
      go_wp2_with fail
      refine (HN.out _).mono ?_
      rintro e w' ⟨rfl, rfl⟩
      go_wp2_with (go_at_call 44; ((with_reducible refine (sin_t _ _ _ _ ?_ ?_).mono ?_)); (omega); (omega); rintro e w' ⟨rfl, rfl⟩)
      have hX0 : 0 ≤ 10 * L + ((s[k].toNat : Int) - 48) := by omega
      have hX1 : 10 * L + ((s[k].toNat : Int) - 48) ≤ 1000 := by omega
      have H48 : IntKind.u8.wrap ((s[k].toNat : Int) - 48) = (s[k].toNat : Int) - 48 := IntWalk.u8_in _ (by omega)
      have H48' : IntKind.i64.wrap ((s[k].toNat : Int) - 48) = (s[k].toNat : Int) - 48 := IntWalk.i64_in _ (by omega)
      generalize HN0 : 10 * L + ((s[k].toNat : Int) - 48) = n at *
      have hq0 : 0 ≤ n / d := Int.ediv_nonneg hX0 (by omega)
      have hq1 : n / d ≤ 1000 := Int.le_trans (Int.ediv_le_self d hX0) hX1
      have kq : n.tdiv d = n / d := Int.tdiv_eq_ediv_of_nonneg hX0
      have kr : n.tmod d = n % d := Int.tmod_eq_emod_of_nonneg hX0
      generalize HQ : n / d = q at *
      generalize HR : n % d = r at *
      have kw : IntKind.i64.wrap q = q := IntWalk.i64_in _ (by omega)
      have hd0 : (d == 0) = false := by simp; omega
      have hd1' : ¬ d = 0 := by omega
      clear HN0
      go_region_held3 (fun _ => True) (trivial)
        ((refine step_append_lies _ (by rfl) _ _ 79 (by rfl) w.heap.size 100 i0 _ 4 32 Tryd.underlying79 hi hz0 hz1 hz2 rfl (by decide) u5 k (recCells 4 (IV (dvF s.data.toList d)) k) (by rfl) ((hown.alloc _).drew) ⟨wr.heap.size, 0, none⟩ 1 1 [.int .i64 L, .int .i64 ((s[k].toNat : Int) - 48), .int .i64 q, .int .i64 r] (by rfl) (by rfl) (World.news_of_block (cs := #[.int .i64 L, .int .i64 ((s[k].toNat : Int) - 48), .int .i64 q, .int .i64 r]) (t := 100) (fr := (0, 0)) (heap_alloc_new wr _)) (by simp [Value.oneCell']) (by omega) (by unfold maxLen; omega) (by omega) (by have := hnx.size; simp; omega) (wr.heap.size + 1) (by simp) ?_; intro gg cap w1 hown' hgrow hat hlt'))
      go_wp2_with fail
      have hb1 := ((hnx.alloc hnx.size _).drew).grown hgrow (by have := hnx.size; simp; omega) (fun j hj => (hown.lt j hj).1)
      go_roundg (gk - 1)
      case measure => omega
      case rel => exact ⟨k + 1, by omega, by rw [HL.out], by go_num, by rw [HC.out]; exact hown', hb1⟩
    · obtain rfl : k = s.size := by omega
      go_wp2_with fail
      go_ret
      exact ⟨_, rfl, Own.of_row hown, hnx⟩
end Go.Proofs.YtfmfjbphflkhiaaDoor
