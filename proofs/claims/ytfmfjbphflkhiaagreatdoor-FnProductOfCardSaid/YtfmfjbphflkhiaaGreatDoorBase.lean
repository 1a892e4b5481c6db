/- Contracts of the small tests of ranges: 'in', 'l1In', 'isDigit'. -/
import Derived.Test.YtfmfjbphflkhiaaGreatDoorRows
import Derived.WalkKit
import Derived.WalkLawsBesides
import Derived.WalkSpells
import Derived.Lib.Hide
import Derived.Deep.LoopGhost
import Derived.Deep.QuietTactic
import Derived.BigQuiet
import Derived.Deep.DeepCutAuto
import Derived.WalkSmall
import Derived.Outline
import Derived.Deep.DeepFit
namespace Go.Proofs.YtfmfjbphflkhiaaGreatDoor
set_option linter.unusedVariables false
set_option linter.unusedSimpArgs false
open Go.RowKit

theorem in_t (n lo hi : Int) (w : World) (h1 : lo ≤ n) (h2 : n ≤ hi) : Calls Tryz.prog 35 #[.int .i64 n, .int .i64 lo, .int .i64 hi] w fun e w' => e = .returned (.bool true) ∧ w = w' := by
  go_enter Tryz.func35, Tryz.ntmps35
  go_wp2
  go_ret
  simp [*]
theorem in_f (n lo hi : Int) (w : World) (h : n < lo ∨ hi < n) : Calls Tryz.prog 35 #[.int .i64 n, .int .i64 lo, .int .i64 hi] w fun e w' => e = .returned (.bool false) ∧ w = w' := by
  by_cases h1 : lo ≤ n
  · have h2 : hi < n := by omega
    clear h
    go_enter Tryz.func35, Tryz.ntmps35
    go_wp2
    go_ret
    simp [*]
  · have h2 : n < lo := by omega
    clear h h1
    go_enter Tryz.func35, Tryz.ntmps35
    go_wp2
    go_ret
    simp
theorem sin_t (n lo hi : Int) (w : World) (h1 : lo ≤ n) (h2 : n ≤ hi) : Calls Tryz.prog 41 #[.int .i64 n, .int .i64 lo, .int .i64 hi] w fun e w' => e = .returned (.bool true) ∧ w = w' := by
  go_enter Tryz.func41, Tryz.ntmps41
  go_wp2
  go_ret
  simp [*]
theorem sin_f (n lo hi : Int) (w : World) (h : n < lo ∨ hi < n) : Calls Tryz.prog 41 #[.int .i64 n, .int .i64 lo, .int .i64 hi] w fun e w' => e = .returned (.bool false) ∧ w = w' := by
  by_cases h1 : lo ≤ n
  · have h2 : hi < n := by omega
    clear h
    go_enter Tryz.func41, Tryz.ntmps41
    go_wp2
    go_ret
    simp [*]
  · have h2 : n < lo := by omega
    clear h h1
    go_enter Tryz.func41, Tryz.ntmps41
    go_wp2
    go_ret
    simp
end Go.Proofs.YtfmfjbphflkhiaaGreatDoor
