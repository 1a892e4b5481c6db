/- A right transcript of taking away: plain words. -/
import Derived.Test.YtfhefngpeknhlabDfp
import Derived.Test.YtfhefngpeknhlabOrd
namespace Go.Proofs.Ytfhefngpeknhlab
set_option linter.unusedVariables false
set_option linter.unusedSimpArgs false
open Go.RowKit

theorem cells_at (w : World) (cs : Array Value) (xs : List Value) (t : TypeId) (B : Nat) (hB : B = w.heap.size) (h : cs.toList = xs) : ∀ j u, xs[j]? = some u → (w.alloc (.cells cs t)).cell? ((⟨B, 0, none⟩ : Addr).add j) = some u := by
  intro j u hj
  subst h
  subst hB
  rw [Go.WideShapes.add_plain, cell_of_row _ _ _ cs t (0, 0) (heap_alloc_new w _)]
  simpa using hj
theorem infoCol : (Try.prog.info? 46).map (fun i => (i.zero, i.size, i.bytes)) = some (some (.agg #[.int .i64 0, .int .i64 0, .int .i64 0, .int .i64 0, .int .i64 0]), 5, 40) := by kernel_rfl
/-- A right transcript of taking away. -/
def takRight (F : Nat → Nat → Int) (n : Nat) : Prop := n ≤ 9 ∧ (∀ i, i < n → colOk F i) ∧ (0 < n → F 0 2 = 0) ∧ (∀ i, i + 1 < n → F (i + 1) 2 = F i 4) ∧ (0 < n → F (n - 1) 4 = 0)
/-- What is carried before a column. -/
def cf (F : Nat → Nat → Int) : Nat → Int
  | 0 => 0
  | i + 1 => F i 4
theorem takRight_in {F : Nat → Nat → Int} {n i : Nat} (h : takRight F n) (hi : i < n) : F i 2 = cf F i := by
  cases i with
  | zero => exact h.2.2.1 hi
  | succ i => exact h.2.2.2.1 i hi
theorem tk_right {s t : List UInt8} (h : takB s t = true) : takRight (tkF s t) s.length := by
  have hn := takB_num h
  refine ⟨(numB_len hn.1).2, fun i _ => tk_colOk hn.1 hn.2 i, fun _ => rfl, fun i _ => rfl, fun hp => ?_⟩
  show tkB s t 0 (s.length - 1 + 1) = 0
  rw [show s.length - 1 + 1 = s.length by omega]
  exact tk_last h

end Go.Proofs.Ytfhefngpeknhlab
