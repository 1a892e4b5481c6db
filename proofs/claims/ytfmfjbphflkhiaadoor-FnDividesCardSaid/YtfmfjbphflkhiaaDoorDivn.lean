/- Drawing a division: the walk of l20Division. -/
import Derived.Test.YtfmfjbphflkhiaaDoorDrw
import Derived.Test.YtfmfjbphflkhiaaDoorDivided
import Derived.Deep.DeepCutAuto
namespace Go.Proofs.YtfmfjbphflkhiaaDoor
set_option linter.unusedVariables false
set_option linter.unusedSimpArgs false
open Go.RowKit

theorem dvF_range (s : ByteArray) (d : Int) (i j : Nat) (h : i < dvN s d) : 0 ≤ dvF s.data.toList d i j ∧ dvF s.data.toList d i j ≤ 1000 := by
  unfold dvN at h
  split at h
  · rename_i hc
    obtain ⟨hn, hd1, hd2⟩ := hc
    have h1 := dvL_range s.data.toList d hd1 i
    have h2 := dvL_range s.data.toList d hd1 (i + 1)
    have h3 := numB_all hn _ (str_mem s i h)
    have h4 : 0 ≤ dA s.data.toList i ∧ dA s.data.toList i ≤ 9 := by rw [dA_at s i h]; omega
    have hX : 0 ≤ 10 * dvL s.data.toList d i + dA s.data.toList i := by omega
    have h5 : 0 ≤ (10 * dvL s.data.toList d i + dA s.data.toList i) / d := Int.ediv_nonneg hX (by omega)
    have h6 : (10 * dvL s.data.toList d i + dA s.data.toList i) / d ≤ 10 * dvL s.data.toList d i + dA s.data.toList i := Int.ediv_le_self d hX
    unfold dvF
    split
    · omega
    · split
      · omega
      · split <;> omega
  · omega
/-- One number changed. -/
def updI (F : Nat → Nat → Int) (i j : Nat) (u : Int) : Nat → Nat → Int := fun i' j' => if i' = i ∧ j' = j then u else F i' j'
theorem upd_IV (F : Nat → Nat → Int) (i j : Nat) (u : Int) : upd (IV F) i j (.int .i64 u) = IV (updI F i j u) := by
  funext i' j'
  unfold upd updI IV
  by_cases h : i' = i ∧ j' = j
  · simp [h]
  · simp [h]

/-- A write into memory of the call's own. -/
theorem set_fresh {w w' : World} {row : Option Nat} {p : Addr} {u : Value} (h : w.grownBy w' row) (hp : w.heap.size ≤ p.block) : w.grownBy (w'.setCell p u) row :=
  ⟨h.os, h.tape, h.output, by simpa [World.setCell] using h.size, fun k hk hr => (Below.heap_setCell w' p u k (by omega)).trans (h.block k hk hr)⟩
/-- What is drawn. -/
def DivPost (rb p : Nat) (w : World) (e : Ending) (w' : World) : Prop :=
  ∃ v d n F, e = .returned (.tuple #[v, .int .i64 d]) ∧ n ≤ 10 ∧ 0 ≤ d ∧ d ≤ 99 ∧ Own w' w.heap.size 100 4 v n (recCells 4 (IV F) n) ∧ ∃ p', p' ≤ p + 2000 ∧ Rdr w' rb p' ∧ w.grownBy w' (some rb)

end Go.Proofs.YtfmfjbphflkhiaaDoor
