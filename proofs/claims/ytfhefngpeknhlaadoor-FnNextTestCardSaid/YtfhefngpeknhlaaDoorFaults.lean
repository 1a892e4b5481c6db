/- The walks of FaultsIn, of the program and of the reference, and of its exact law. -/
import Derived.Test.YtfhefngpeknhlaaDoorBase
namespace Go.Proofs.YtfhefngpeknhlaaDoor
set_option linter.unusedVariables false
set_option linter.unusedSimpArgs false
open Go.RowKit

/-- How many faults a way has. -/
def fc (n : Int) : Int := n % 2 + n / 2 % 2 + n / 4 % 2 + n / 8
def FaultsOf (n : Int) : Int := if 0 ≤ n ∧ n ≤ 15 then fc n else -1
theorem way_cases {n : Int} (h0 : 0 ≤ n) (h1 : n ≤ 15) : n = 0 ∨ n = 1 ∨ n = 2 ∨ n = 3 ∨ n = 4 ∨ n = 5 ∨ n = 6 ∨ n = 7 ∨ n = 8 ∨ n = 9 ∨ n = 10 ∨ n = 11 ∨ n = 12 ∨ n = 13 ∨ n = 14 ∨ n = 15 := by omega
theorem iFaults0 (w : World) : Calls Tryd.prog 49 #[.int .i64 0] w fun e w' => e = .returned (.int .i64 (FaultsOf 0)) ∧ w = w' := by
  go_enter Tryd.func49, Tryd.ntmps49
  go_wp2
  go_ret
  exact ⟨congrArg (fun z : Int => Ending.returned (.int .i64 z)) (by decide +kernel), rfl⟩
theorem iFaults1 (w : World) : Calls Tryd.prog 49 #[.int .i64 1] w fun e w' => e = .returned (.int .i64 (FaultsOf 1)) ∧ w = w' := by
  go_enter Tryd.func49, Tryd.ntmps49
  go_wp2
  go_ret
  exact ⟨congrArg (fun z : Int => Ending.returned (.int .i64 z)) (by decide +kernel), rfl⟩
theorem iFaults2 (w : World) : Calls Tryd.prog 49 #[.int .i64 2] w fun e w' => e = .returned (.int .i64 (FaultsOf 2)) ∧ w = w' := by
  go_enter Tryd.func49, Tryd.ntmps49
  go_wp2
  go_ret
  exact ⟨congrArg (fun z : Int => Ending.returned (.int .i64 z)) (by decide +kernel), rfl⟩
theorem iFaults3 (w : World) : Calls Tryd.prog 49 #[.int .i64 3] w fun e w' => e = .returned (.int .i64 (FaultsOf 3)) ∧ w = w' := by
  go_enter Tryd.func49, Tryd.ntmps49
  go_wp2
  go_ret
  exact ⟨congrArg (fun z : Int => Ending.returned (.int .i64 z)) (by decide +kernel), rfl⟩
theorem iFaults4 (w : World) : Calls Tryd.prog 49 #[.int .i64 4] w fun e w' => e = .returned (.int .i64 (FaultsOf 4)) ∧ w = w' := by
  go_enter Tryd.func49, Tryd.ntmps49
  go_wp2
  go_ret
  exact ⟨congrArg (fun z : Int => Ending.returned (.int .i64 z)) (by decide +kernel), rfl⟩
theorem iFaults5 (w : World) : Calls Tryd.prog 49 #[.int .i64 5] w fun e w' => e = .returned (.int .i64 (FaultsOf 5)) ∧ w = w' := by
  go_enter Tryd.func49, Tryd.ntmps49
  go_wp2
  go_ret
  exact ⟨congrArg (fun z : Int => Ending.returned (.int .i64 z)) (by decide +kernel), rfl⟩
theorem iFaults6 (w : World) : Calls Tryd.prog 49 #[.int .i64 6] w fun e w' => e = .returned (.int .i64 (FaultsOf 6)) ∧ w = w' := by
  go_enter Tryd.func49, Tryd.ntmps49
  go_wp2
  go_ret
  exact ⟨congrArg (fun z : Int => Ending.returned (.int .i64 z)) (by decide +kernel), rfl⟩
theorem iFaults7 (w : World) : Calls Tryd.prog 49 #[.int .i64 7] w fun e w' => e = .returned (.int .i64 (FaultsOf 7)) ∧ w = w' := by
  go_enter Tryd.func49, Tryd.ntmps49
  go_wp2
  go_ret
  exact ⟨congrArg (fun z : Int => Ending.returned (.int .i64 z)) (by decide +kernel), rfl⟩
theorem iFaults8 (w : World) : Calls Tryd.prog 49 #[.int .i64 8] w fun e w' => e = .returned (.int .i64 (FaultsOf 8)) ∧ w = w' := by
  go_enter Tryd.func49, Tryd.ntmps49
  go_wp2
  go_ret
  exact ⟨congrArg (fun z : Int => Ending.returned (.int .i64 z)) (by decide +kernel), rfl⟩
theorem iFaults9 (w : World) : Calls Tryd.prog 49 #[.int .i64 9] w fun e w' => e = .returned (.int .i64 (FaultsOf 9)) ∧ w = w' := by
  go_enter Tryd.func49, Tryd.ntmps49
  go_wp2
  go_ret
  exact ⟨congrArg (fun z : Int => Ending.returned (.int .i64 z)) (by decide +kernel), rfl⟩
theorem iFaults10 (w : World) : Calls Tryd.prog 49 #[.int .i64 10] w fun e w' => e = .returned (.int .i64 (FaultsOf 10)) ∧ w = w' := by
  go_enter Tryd.func49, Tryd.ntmps49
  go_wp2
  go_ret
  exact ⟨congrArg (fun z : Int => Ending.returned (.int .i64 z)) (by decide +kernel), rfl⟩
theorem iFaults11 (w : World) : Calls Tryd.prog 49 #[.int .i64 11] w fun e w' => e = .returned (.int .i64 (FaultsOf 11)) ∧ w = w' := by
  go_enter Tryd.func49, Tryd.ntmps49
  go_wp2
  go_ret
  exact ⟨congrArg (fun z : Int => Ending.returned (.int .i64 z)) (by decide +kernel), rfl⟩
theorem iFaults12 (w : World) : Calls Tryd.prog 49 #[.int .i64 12] w fun e w' => e = .returned (.int .i64 (FaultsOf 12)) ∧ w = w' := by
  go_enter Tryd.func49, Tryd.ntmps49
  go_wp2
  go_ret
  exact ⟨congrArg (fun z : Int => Ending.returned (.int .i64 z)) (by decide +kernel), rfl⟩
theorem iFaults13 (w : World) : Calls Tryd.prog 49 #[.int .i64 13] w fun e w' => e = .returned (.int .i64 (FaultsOf 13)) ∧ w = w' := by
  go_enter Tryd.func49, Tryd.ntmps49
  go_wp2
  go_ret
  exact ⟨congrArg (fun z : Int => Ending.returned (.int .i64 z)) (by decide +kernel), rfl⟩
theorem iFaults14 (w : World) : Calls Tryd.prog 49 #[.int .i64 14] w fun e w' => e = .returned (.int .i64 (FaultsOf 14)) ∧ w = w' := by
  go_enter Tryd.func49, Tryd.ntmps49
  go_wp2
  go_ret
  exact ⟨congrArg (fun z : Int => Ending.returned (.int .i64 z)) (by decide +kernel), rfl⟩
theorem iFaults15 (w : World) : Calls Tryd.prog 49 #[.int .i64 15] w fun e w' => e = .returned (.int .i64 (FaultsOf 15)) ∧ w = w' := by
  go_enter Tryd.func49, Tryd.ntmps49
  go_wp2
  go_ret
  exact ⟨congrArg (fun z : Int => Ending.returned (.int .i64 z)) (by decide +kernel), rfl⟩
theorem iFaults (n : Int) (w : World) : Calls Tryd.prog 49 #[.int .i64 n] w fun e w' => e = .returned (.int .i64 (FaultsOf n)) ∧ w = w' := by
  by_cases h : 0 ≤ n ∧ n ≤ 15
  · obtain ⟨h0, h1⟩ := h
    rcases way_cases h0 h1 with rfl | rfl | rfl | rfl | rfl | rfl | rfl | rfl | rfl | rfl | rfl | rfl | rfl | rfl | rfl | rfl
    · exact iFaults0 w
    · exact iFaults1 w
    · exact iFaults2 w
    · exact iFaults3 w
    · exact iFaults4 w
    · exact iFaults5 w
    · exact iFaults6 w
    · exact iFaults7 w
    · exact iFaults8 w
    · exact iFaults9 w
    · exact iFaults10 w
    · exact iFaults11 w
    · exact iFaults12 w
    · exact iFaults13 w
    · exact iFaults14 w
    · exact iFaults15 w
  · have e : FaultsOf n = -1 := if_neg h
    have h' : n < 0 ∨ 15 < n := by omega
    rw [e]
    clear h e
    go_enter Tryd.func49, Tryd.ntmps49
    go_wp2_with (first | (go_at_call 87; ((with_reducible refine (in_f _ _ _ _ ?_).mono ?_)); (omega); rintro e w' ⟨rfl, rfl⟩) | go_in)
    go_ret
    exact ⟨rfl, rfl⟩
theorem sFaults (n : Int) (w : World) : Calls Tryd.prog 81 #[.int .i64 n] w fun e w' => e = .returned (.int .i64 (FaultsOf n)) ∧ w = w' := by
  by_cases h : 0 ≤ n ∧ n ≤ 15
  · have e : FaultsOf n = fc n := if_pos h
    obtain ⟨h0, h1⟩ := h
    rw [e]
    go_enter Tryd.func81, Tryd.ntmps81
    go_wp2_with (first | (go_at_call 58; ((with_reducible refine (sin_t _ _ _ _ ?_ ?_).mono ?_)); (omega); (omega); rintro e w' ⟨rfl, rfl⟩))
    go_ret
    exact ⟨rfl, rfl⟩
  · have e : FaultsOf n = -1 := if_neg h
    have h' : n < 0 ∨ 15 < n := by omega
    rw [e]
    clear h e
    go_enter Tryd.func81, Tryd.ntmps81
    go_wp2_with (first | (go_at_call 58; ((with_reducible refine (sin_f _ _ _ _ ?_).mono ?_)); (omega); rintro e w' ⟨rfl, rfl⟩))
    go_ret
    exact ⟨rfl, rfl⟩
end Go.Proofs.YtfhefngpeknhlaaDoor
