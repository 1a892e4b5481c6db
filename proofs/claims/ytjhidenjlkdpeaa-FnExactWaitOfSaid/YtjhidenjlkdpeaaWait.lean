/- The walk of the law on WaitOf. -/
import Derived.Test.YtjhidenjlkdpeaaBase
namespace Go.Proofs.Ytjhidenjlkdpeaa
open Go.RowKit
theorem law_WaitOf (a0 : Int) (w : World) :
    Calls Try.prog 3 #[.int .i64 a0] w fun e w' => e = .returned (.bool true) ∧ Grown w w' := by
  by_cases h1 : a0 = 1 ∨ a0 = 2 ∨ a0 = 3 ∨ a0 = 4 ∨ a0 = 5
  · rcases h1 with rfl | rfl | rfl | rfl | rfl
    all_goals
      go_enter Try.func3, Try.ntmps3
      go_wp2
      go_ret
      exact ⟨rfl, Grown.refl _⟩
  · have h2 : a0 < 1 ∨ 5 < a0 := by omega
    clear h1
    go_enter Try.func3, Try.ntmps3
    go_wp2_with (first | (go_at_call 49; ((with_reducible refine (in_f _ _ _ _ ?_).mono ?_)); (omega); rintro e w' ⟨rfl, rfl⟩) | (go_at_call 48; ((with_reducible refine (sin_f _ _ _ _ ?_).mono ?_)); (omega); rintro e w' ⟨rfl, rfl⟩) | go_in)
    go_ret
    exact ⟨rfl, Grown.refl _⟩
end Go.Proofs.Ytjhidenjlkdpeaa
