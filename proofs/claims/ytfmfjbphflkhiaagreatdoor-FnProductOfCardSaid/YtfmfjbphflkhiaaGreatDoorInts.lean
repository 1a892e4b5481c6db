/- The laws' own helpers on lists of numbers: equal, marked, still marked. -/
import Derived.Test.YtfmfjbphflkhiaaGreatDoorBase
import Derived.Test.YtfmfjbphflkhiaaGreatDoorMem
namespace Go.Proofs.YtfmfjbphflkhiaaGreatDoor
set_option linter.unusedVariables false
set_option linter.unusedSimpArgs false
open Go.RowKit

theorem below_drewN {B : Nat} {a w : World} (h : Below B a w) (n : Nat) : Below B a (w.drewN n) := ⟨h.os, h.tape, h.output, h.size, h.block⟩

/-- A slice value that reads as a list of numbers. -/
def IntSl (w : World) (B : Nat) (v : Value) (xs : List Int) : Prop := Sl w B xs.length v xs.length (fun j => .int .i64 (xs.getD j 0))
theorem IntSl.of_own {w : World} {base : Nat} {e : TypeId} {v : Value} {xs : List Int} (h : Own w base e 1 v xs.length (xs.map (Value.int .i64))) : IntSl w w.heap.size v xs := by
  have h1 := Sl.of_own h
  rw [Nat.mul_one] at h1
  exact h1.congr fun j hj => by simp [List.getD_eq_getElem?_getD, hj]

theorem IntSl.below {w w' : World} {B B' : Nat} {v : Value} {xs : List Int} (h : IntSl w B v xs) (hb : Below B' w w') (hB : B ≤ B') : IntSl w' B v xs := Sl.below h (hb.mono hB)
theorem IntSl.grown {w w' : World} {B : Nat} {v : Value} {xs : List Int} (h : IntSl w B v xs) {row : Option Nat} (hg : w.grownBy w' row) (hB : B ≤ w.heap.size) (hr : ∀ k, row = some k → B ≤ k) : IntSl w' B v xs := Sl.grown h hg hB hr
theorem IntSl.mono {w : World} {B B' : Nat} {v : Value} {xs : List Int} (h : IntSl w B v xs) (hB : B ≤ B') : IntSl w B' v xs := Sl.mono h hB
end Go.Proofs.YtfmfjbphflkhiaaGreatDoor
