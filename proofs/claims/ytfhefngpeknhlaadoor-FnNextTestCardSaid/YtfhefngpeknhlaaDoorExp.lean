/- The walks of Explains, of the program (a closure over the way) and of the reference; its exact law. -/
import Derived.Test.YtfhefngpeknhlaaDoorTkw
import Derived.Test.YtfhefngpeknhlaaDoorTokX
namespace Go.Proofs.YtfhefngpeknhlaaDoor
set_option linter.unusedVariables false
set_option linter.unusedSimpArgs false
open Go.RowKit

theorem strs_ne {x y : ByteArray} (h : ¬ y = x) : (y.toList == x.toList) = false := by
  rw [beq_eq_false_iff_ne, Lib.toList_data, Lib.toList_data]
  intro e
  exact h (by rw [← bStr_of y, e, bStr_of])
/-- Does an answer come out? -/
def expAt (S : Nat → Nat → ByteArray) (way : Int) (i : Nat) : Bool := decide (tkS (S i 0).data.toList (S i 1).data.toList way = S i 2)
def expB (S : Nat → Nat → ByteArray) (n : Nat) (way : Int) : Bool := tokB S n && (decide (0 ≤ way ∧ way ≤ 15) && (List.range n).all (expAt S way))

set_option maxRecDepth 20000 in
set_option maxHeartbeats 2000000 in
theorem exp_cl (a b c : ByteArray) (bw : Nat) (way : Int) (ha : a.size ≤ maxLen) (hb : b.size ≤ maxLen) (hk : takB a.data.toList b.data.toList = true) (h0 : 0 ≤ way) (h1 : way ≤ 15) (w : World) (e1 : w.cell? ⟨bw, 0, none⟩ = some (.int .i64 way)) :
    Calls Tryd.prog 102 #[.agg #[.string a, .string b, .string c], .pointer (some ⟨bw, 0, none⟩)] w fun e w' => e = .returned (.bool (!decide (tkS a.data.toList b.data.toList way = c))) ∧ Below w.heap.size w w' := by
  have hn := takB_num hk
  have HT := Lib.hid fun W => takenBy_any a b way ha hb hn.1 hn.2 h0 h1 W
  have hbw : bw < w.heap.size := World.block_lt_of_cell? w _ e1
  have i1 : (w.alloc (.cells #[.string a, .string b, .string c] 31)).cell? ⟨bw, 0, none⟩ = some (.int .i64 way) := (World.cell?_alloc_past _ _ _ hbw).trans e1
  have hW : ∀ j u, (#[Value.string a, .string b, .string c])[j]? = some u → (w.alloc (.cells #[.string a, .string b, .string c] 31)).cell? ⟨w.heap.size, j, none⟩ = some u := fun j u hj => by rw [World.cell?_alloc_mark, hj]
  have f0 := hW 0 _ rfl
  have f1 := hW 1 _ rfl
  have f2 := hW 2 _ rfl
  have hbel := (Below.refl w.heap.size w).alloc (Nat.le_refl _) (.cells #[.string a, .string b, .string c] 31)
  have hs1 : w.heap.size < (w.alloc (.cells #[.string a, .string b, .string c] 31)).heap.size := by simp
  have hs2 : bw < (w.alloc (.cells #[.string a, .string b, .string c] 31)).heap.size := by simp; omega
  clear hn hk ha hb hW
  generalize hx : tkS a.data.toList b.data.toList way = x at *
  by_cases he : x = c
  · have HD := Lib.hid (show (!decide (x = c)) = false by simp [he])
    have HX := Lib.hid he
    have heq : (x.toList == c.toList) = true := by rw [he]; exact beq_self_eq_true _
    clear he hx
    go_enter Tryd.func102, Tryd.ntmps102
    go_wp2_with fail
    generalize hw1 : w.alloc (.cells #[.string a, .string b, .string c] 31) = w1 at *
    clear hw1 e1
    go_region_held3 (fun w' => w'.cell? ⟨w.heap.size, 0, none⟩ = some (.string a) ∧ w'.cell? ⟨w.heap.size, 1, none⟩ = some (.string b) ∧ w'.cell? ⟨w.heap.size, 2, none⟩ = some (.string c) ∧ w'.cell? ⟨bw, 0, none⟩ = some (.int .i64 way))
      (go_keep)
      (first | (go_at_call 57; refine (HT.out _).mono ?_; rintro e w2 ⟨rfl, q2⟩; have g0 := (q2.cell (p := ⟨w.heap.size, 0, none⟩) hs1).trans f0; have g1 := (q2.cell (p := ⟨w.heap.size, 1, none⟩) hs1).trans f1; have g2 := (q2.cell (p := ⟨w.heap.size, 2, none⟩) hs1).trans f2; have g3 := (q2.cell (p := ⟨bw, 0, none⟩) hs2).trans i1))
    go_wp2_with fail
    go_ret
    exact ⟨by rw [HD.out]; first | rfl | simp [HX.out], by first | exact below_own hbel q2 hbel.size | exact below_own hbel.drew q2 hbel.size⟩
  · have HD := Lib.hid (show (!decide (x = c)) = true by simp [he])
    have heq := strs_ne he
    clear he hx
    go_enter Tryd.func102, Tryd.ntmps102
    go_wp2_with fail
    generalize hw1 : w.alloc (.cells #[.string a, .string b, .string c] 31) = w1 at *
    clear hw1 e1
    go_region_held3 (fun w' => w'.cell? ⟨w.heap.size, 0, none⟩ = some (.string a) ∧ w'.cell? ⟨w.heap.size, 1, none⟩ = some (.string b) ∧ w'.cell? ⟨w.heap.size, 2, none⟩ = some (.string c) ∧ w'.cell? ⟨bw, 0, none⟩ = some (.int .i64 way))
      (go_keep)
      (first | (go_at_call 57; refine (HT.out _).mono ?_; rintro e w2 ⟨rfl, q2⟩; have g0 := (q2.cell (p := ⟨w.heap.size, 0, none⟩) hs1).trans f0; have g1 := (q2.cell (p := ⟨w.heap.size, 1, none⟩) hs1).trans f1; have g2 := (q2.cell (p := ⟨w.heap.size, 2, none⟩) hs1).trans f2; have g3 := (q2.cell (p := ⟨bw, 0, none⟩) hs2).trans i1))
    go_wp2_with fail
    go_ret
    exact ⟨by rw [HD.out]; first | rfl | exact congrArg (fun b => Ending.returned (.bool b)) (by simpa using heq), by first | exact below_own hbel q2 hbel.size | exact below_own hbel.drew q2 hbel.size⟩
end Go.Proofs.YtfhefngpeknhlaaDoor
