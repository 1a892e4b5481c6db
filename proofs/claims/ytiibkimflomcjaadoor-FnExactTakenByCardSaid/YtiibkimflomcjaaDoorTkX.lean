/- The exact law on TakenBy. -/
import Derived.Test.YtiibkimflomcjaaDoorTkw
namespace Go.Proofs.YtiibkimflomcjaaDoor
set_option linter.unusedVariables false
set_option linter.unusedSimpArgs false
open Go.RowKit

set_option maxRecDepth 20000 in
set_option maxHeartbeats 2000000 in
theorem law_ExactTakenBy (s : ByteArray) (hs : s.size ≤ maxLen) (t : ByteArray) (ht : t.size ≤ maxLen) (way : Int) (wd : (Lit.int .i64 way).wf = true) (w : World) :
    Calls Tryd.prog 3 #[.string s, .string t, .int .i64 way] w fun e w' => e = .returned (.bool true) ∧ Below w.heap.size w w' := by
  have CS := Lib.hid fun W => sTakenBy s t way hs ht W
  have CI := Lib.hid fun W => iTakenBy s t way hs ht W
  unfold maxLen at hs ht
  by_cases hbig : 1048576 < s.size
  · go_enter Tryd.func3, Tryd.ntmps3
    go_wp2_with fail
    go_ret
    exact ⟨rfl, Below.refl _ _⟩
  have hbig' : s.size ≤ 1048576 := by omega
  clear hbig
  by_cases hbig2 : 1048576 < t.size
  · go_enter Tryd.func3, Tryd.ntmps3
    go_wp2_with fail
    go_ret
    exact ⟨rfl, Below.refl _ _⟩
  have hbig2' : t.size ≤ 1048576 := by omega
  clear hbig2
  generalize pkS s.data.toList t.data.toList way = x1 at *
  generalize pairB s.data.toList t.data.toList way = x2 at *
  go_enter Tryd.func3, Tryd.ntmps3
  go_wp2_with fail
  refine (CS.out _).mono ?_
  rintro e w1 ⟨rfl, b1⟩
  go_wp2_with fail
  refine (CI.out _).mono ?_
  rintro e w2 ⟨rfl, b2⟩
  have hB2 := below_own b1 b2 b1.size
  clear b1 b2
  go_wp2_with fail
  go_ret
  exact ⟨rfl, hB2⟩
end Go.Proofs.YtiibkimflomcjaaDoor
