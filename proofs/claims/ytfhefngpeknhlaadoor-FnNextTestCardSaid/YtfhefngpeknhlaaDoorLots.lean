/- The walk of lots: a map of joined answers. -/
import Derived.Test.YtfhefngpeknhlaaDoorLotP
import Derived.Test.YtfhefngpeknhlaaDoorExp2
import Derived.Test.YtfhefngpeknhlaaDoorStrS
import Derived.Maps.OwnOps
import Derived.Maps.OwnSet
import Derived.Test.YtfhefngpeknhlaaDoorShelf
namespace Go.Proofs.YtfhefngpeknhlaaDoor
set_option linter.unusedVariables false
set_option linter.unusedSimpArgs false
open Go.RowKit Go.Maps

theorem lawS : Keyed Tryd.prog 9 := string_keyed Tryd.underlying9
theorem zeroI (w : World) : (zeroValue 3).run Tryd.prog w = .ok (.int .i64 0) w := by kernel_rfl
theorem wf_small : ∀ n : Fin 20, (Lit.int .i64 ((n.val : Int) + 1)).wf = true := by decide
def LotM (w : World) (b n : Nat) (D : DataW Unit) : Prop := w.ownsMap Tryd.prog 9 (plainElem Tryd.prog 3) b n D
theorem LotM.below {w w' : World} {b n : Nat} {D : DataW Unit} (h : LotM w b n D) (hb : Below w.heap.size w w') : LotM w' b n D := World.ownsMap.kept h (grown_of_below hb none) (by simp)
def LotsP (K : Nat → List UInt8) (m : Nat) (w : World) (e : Ending) (w' : World) : Prop := ∃ b D, e = .returned (.map (some b)) ∧ w.heap.size ≤ b ∧ LotM w' b m D ∧ Lot K m D ∧ Below w.heap.size w w'

set_option maxRecDepth 20000 in
set_option maxHeartbeats 2000000 in
theorem iLots (w : World) (B : Nat) (v vw : Value) (n : Nat) (S : Nat → Nat → ByteArray) (xs : List Int) (hR : Recs w B v n 3 (SV S)) (hX : IntSl w B vw xs) (hBw : B ≤ w.heap.size) (hS : ∀ i, i < n → ∀ j, j < 3 → (S i j).size ≤ maxLen)
    (hk : tokB S n = true) (hx : ∀ j, j < xs.length → 0 ≤ xs.getD j 0 ∧ xs.getD j 0 ≤ 15) (hl : xs.length ≤ 16) :
    Calls Tryd.prog 77 #[v, vw] w (LotsP (fun j => keyT S n (xs.getD j 0)) xs.length w) := by
  have hn6 := tokB_len hk
  have HTk := Lib.hid fun k (hlt : k < n) (way : Int) (h0 : 0 ≤ way) (h1 : way ≤ 15) W => takenBy_any (S k 0) (S k 1) way (hS k hlt 0 (by omega)) (hS k hlt 1 (by omega)) (takB_num (tokB_at hk hlt)).1 (takB_num (tokB_at hk hlt)).2 h0 h1 W
  have HX := Lib.hid hx
  obtain ⟨A, cap, rfl, hnc, hcm, hcell⟩ := hR
  obtain ⟨A2, cap2, rfl, hnc2, hcm2, hcell2⟩ := hX
  unfold maxLen at hcm hcm2
  have Hc := Lib.hid hcell
  have Hc2 := Lib.hid hcell2
  have hmm := @run_makeMap Tryd.prog
  obtain ⟨i0, hi, hz0, hz1, hz2⟩ := info_parts infoStr
  have hKlen := fun (way : Int) => keyT_len (S := S) hn6 way
  have HKl := Lib.hid hKlen
  clear hcell hcell2 hS hk hx hKlen
  go_enter Tryd.func77, Tryd.ntmps77
  go_wp2_with fail
  go_loopg [7, 8, 10, 14, 20] xs.length (fun g s7 s8 s10 s14 s20 wr => ∃ k : Nat, ∃ D : DataW Unit, g + k = xs.length ∧ s14 = .int .i64 k ∧ LotM wr w.heap.size k D ∧ Hid (Lot (fun j => keyT S n (xs.getD j 0)) k D) ∧ Below w.heap.size w wr)
  case atStart => exact ⟨0, .map [], rfl, rfl, World.ownsMap_made _ _ _ _, Lib.hid (Lot.zero _), (Below.refl _ _).alloc (Nat.le_refl _) _⟩
  case round =>
    obtain ⟨k, D, hkg, rfl, hM, HL, hB⟩ := hrel
    by_cases hlt : k < xs.length
    · obtain ⟨go, hgo⟩ : ∃ x, x = gk := ⟨_, rfl⟩
      obtain ⟨W1, rfl⟩ : ∃ x, x = wr := ⟨_, rfl⟩
      obtain ⟨b2, o2, rfl, hb2, hc2⟩ := Hc2.out (by omega)
      have e1 := (hB.cell (p := ⟨b2, o2 + k, none⟩) (by show b2 < w.heap.size; omega)).trans (hc2 k hlt)
      have hx1 := HX.out k hlt
      have HK0 := Lib.hid (show (fun j => keyT S n (xs.getD j 0)) k = keyT S n (xs.getD k 0) from rfl)
      have hki : (k : Int) < (xs.length : Int) := by omega
      have hkd : decide ((k : Int) < (xs.length : Int)) = true := decide_eq_true hki
      clear hc2
      generalize xs.getD k 0 = way at *
      obtain ⟨hx0, hx15⟩ := hx1
      have HTw := Lib.hid fun i hi W => HTk.out i hi way hx0 hx15 W
      have HMr := Lib.hid hM
      have HBr := Lib.hid hB
      have hsr := hB.size
      have hbr := World.ownsMap.lt hM
      clear hM hB
      go_wp2_with fail
      go_loopg [8, 10, 20] n (fun g s8 s10 s20 wr2 => ∃ i : Nat, g + i = n ∧ s20 = .int .i64 i ∧ wr2.ownsRow W1.heap.size 9 1 s8 i (rowV (TV (ansT S way)) i) ∧ Below W1.heap.size W1 wr2)
      case atStart => exact ⟨0, rfl, rfl, World.ownsRow_nil _ _ _ _, Below.refl _ _⟩
      case round =>
        obtain ⟨i, hi', rfl, hown, hB2⟩ := hrel
        by_cases hin : i < n
        · obtain ⟨b, o, rfl, hb, hc⟩ := Hc.out (by omega)
          have hBw2 := below_own HBr.out hB2 hsr
          have hbw : b < w.heap.size := by omega
          have e0 := (hBw2.cell (p := ⟨b, o + i * 3, none⟩) hbw).trans (hc i hin 0 (by omega))
          have e2 := (hBw2.cell (p := ⟨b, o + i * 3 + 1, none⟩) hbw).trans (hc i hin 1 (by omega))
          have e3 := (hBw2.cell (p := ⟨b, o + i * 3 + 2, none⟩) hbw).trans (hc i hin 2 (by omega))
          simp only [SV] at e0 e2 e3
          have HK := Lib.hid (HTw.out i hin)
          have HA := Lib.hid (show TV (ansT S way) i = .string (tkS (S i 0).data.toList (S i 1).data.toList way) from rfl)
          have HRs := Lib.hid (rowV_succ (TV (ansT S way)) i)
          clear hc hBw2
          generalize tkS (S i 0).data.toList (S i 1).data.toList way = x at *
          generalize S i 0 = q0 at *
          generalize S i 1 = q1 at *
          generalize S i 2 = q2 at *
          have hii : (i : Int) < (n : Int) := by omega
          have hbel := hB2.alloc hB2.size (.cells #[.string q0, .string q1, .string q2] 31)
          have hW : ∀ j u, (#[Value.string q0, .string q1, .string q2])[j]? = some u → (wr.alloc (.cells #[.string q0, .string q1, .string q2] 31)).cell? ⟨wr.heap.size, j, none⟩ = some u := fun j u hj => by rw [World.cell?_alloc_mark, hj]
          have f0 := hW 0 _ rfl
          have f1 := hW 1 _ rfl
          have HOwn := Lib.hid (hown.alloc (.cells #[.string q0, .string q1, .string q2] 31))
          have HBel := Lib.hid hbel
          clear hW hown hbel hB2
          go_wp2_with fail
          generalize hw1 : wr.alloc (.cells #[.string q0, .string q1, .string q2] 31) = wz at *
          clear hw1 e0 e2 e3
          refine (HK.out _).mono ?_
          rintro e w3 ⟨rfl, b3⟩
          have hown3 := own_below HOwn.out b3
          have hB3 := below_own HBel.out b3 HBel.out.size
          clear f0 f1 b3 HOwn HBel
          go_wp2_with (at_builtin; refine wpList_append_own _ rfl _ _ 95 rfl W1.heap.size 9 i0 (.string ByteArray.empty) 1 16 Tryd.underlying95 hi hz0 hz1 hz2 rfl (by decide) _ _ _ rfl (hown3.alloc _) ⟨w3.heap.size, 0, none⟩ 1 1 [.string x] rfl rfl (cell_one_new _ _ _) (by simp [Value.oneCell']) (by unfold maxLen; omega) (by omega) (by have := hB3.size; simp; omega) ?_; intro v' w4 hown' hgrow _)
          have hB4 := (hB3.alloc hB3.size (.cells #[.string x] 9)).grown hgrow (by have := hB3.size; simp; omega) (fun j hj => (hown3.lt j hj).1)
          go_roundg (gk - 1)
          case measure => omega
          case rel => exact ⟨i + 1, by omega, by go_num, by rw [HRs.out, HA.out]; exact hown', hB4⟩
        · obtain rfl : i = n := by omega
          have hMi := LotM.below HMr.out (by have := hB2; exact this)
          have hBi := below_own HBr.out hB2 hsr
          have hsi := hB2.size
          have hstep := HL.out.step
          have hL3 := HL.out.2.2.1 (keyT S i way)
          rw [HK0.out] at hstep
          obtain ⟨m0, hm0⟩ : ∃ m0, cntK (fun j => keyT S i (xs.getD j 0)) k (keyT S i way) = m0 := ⟨_, rfl⟩
          have hm0k : m0 ≤ k := by rw [← hm0]; exact cntK_le _ _ _
          rw [hm0] at hstep hL3
          have HStep := Lib.hid hstep
          have HLat : Hid (∀ c : Int, D.atKey (.string (keyT S i way)) (.lit (.int .i64 0)) = .lit (.int .i64 c) → c = m0) := Lib.hid fun c h => by
            rw [hL3] at h
            injection h with h
            injection h with _ h
            exact h.symm
          have hkl := HKl.out way
          have hky : (⟨(keyT S i way).toArray⟩ : ByteArray).data.toList = keyT S i way := by simp
          have hkey : keyOf Tryd.prog 9 (.string ⟨(keyT S i way).toArray⟩) = some (.string (keyT S i way)) := by
            have h := Go.WideMaps.keyOf_string_mk (P := Tryd.prog) Tryd.underlying9 (s := ⟨(keyT S i way).toArray⟩) (by show (keyT S i way).toArray.size ≤ maxLen; rw [List.size_toArray]; unfold maxLen; omega)
            rw [hky] at h
            exact h
          have hwf : (Lit.int .i64 ((m0 : Int) + 1)).wf = true := wf_small ⟨m0, by omega⟩
          have hJ : ∀ (vv : Value), vv = u8 → Calls Tryd.prog 105 #[vv, .string ⟨#[32]⟩] wr fun e w' => e = .returned (.string ⟨(keyT S i way).toArray⟩) ∧ Below wr.heap.size wr w' := by
            rintro vv rfl
            by_cases hz : i = 0
            · subst hz
              obtain ⟨a, c, rfl⟩ : ∃ a c, vv = .slice a 0 c := by
                rcases hown.2 with ⟨rfl, _⟩ | ⟨g, cap, cur, rfl, _⟩
                · exact ⟨none, 0, rfl⟩
                · exact ⟨_, _, rfl⟩
              exact (Tryd.strings_Join_none a c ⟨#[32]⟩ wr).mono fun e w' ⟨he, hw⟩ => ⟨he, by rw [hw]; exact Below.refl _ _⟩
            · obtain ⟨g, cap', rfl, hnc', hcm', _, hgl, hcells, _⟩ := owns_at hown (by omega)
              have h := Tryd.strings_Join g 0 cap' ((List.range i).map (ansT S way)) ⟨#[32]⟩ wr (fun j x hj => by
                have hji : j < i := by
                  have := (List.getElem?_eq_some_iff.1 hj).1
                  simpa using this
                have hx : x = ansT S way j := by
                  simp [hji] at hj
                  exact hj.symm
                rw [Nat.zero_add]
                refine hcells j _ ?_
                rw [rowV_at _ hji, hx]; rfl) hgl (by simp; omega) (by simpa using hnc') (by have := hkl; unfold keyT at this; show (Lib.join _ [32]).length ≤ _; omega)
              rw [List.length_map, List.length_range] at h
              exact h
          have HJ := Lib.hid (hJ u8 rfl)
          clear hJ hstep hL3 hm0 hky hown HL HK0 hkl HKl
          generalize hKT : keyT S i way = KT at *
          have HMi := Lib.hid hMi
          have HBi := Lib.hid hBi
          clear hKT hMi hBi
          go_wp2_with fail
          refine HJ.out.mono ?_
          rintro e w3 ⟨rfl, b3⟩
          have hM3 := LotM.below HMi.out b3
          have hB3 := below_own HBi.out b3 HBi.out.size
          go_wp2_with (first
            | (at_lookup; refine wpList_lookup_own_int _ rfl _ _ 76 rfl 9 3 .i64 lawS Tryd.underlying76 Tryd.underlying3 (zeroI _) w.heap.size k D rfl hM3 _ _ rfl hkey ?_; intro c hat hwc; obtain rfl := HLat.out c hat)
            | (at_mapUpdate; refine wpList_mapUpdate_own _ rfl _ _ _ 76 rfl 9 3 lawS Tryd.underlying76 _ w.heap.size k D rfl hM3 (by unfold maxLen; omega) _ _ _ rfl rfl hkey _ [] (plainElem_int Tryd.underlying3 hwf) ?_; intro w4 hown4 hgrow4))
          have hB4 := hB3.grown hgrow4 hB3.size (fun j hj => by cases hj; exact Nat.le_refl _)
          go_roundg (go - 1)
          case measure => omega
          case rel => exact ⟨k + 1, _, by omega, by go_num, hown4, HStep, hB4⟩
    · obtain rfl : k = xs.length := by omega
      go_wp2_with fail
      go_ret
      exact ⟨_, D, rfl, Nat.le_refl _, hM, HL.out, hB⟩
end Go.Proofs.YtfhefngpeknhlaaDoor
