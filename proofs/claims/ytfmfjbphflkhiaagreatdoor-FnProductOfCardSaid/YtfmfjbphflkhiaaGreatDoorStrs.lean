/- The walk of l2Trim. -/
import Derived.Test.YtfmfjbphflkhiaaGreatDoorPlain
import Derived.Test.YtfmfjbphflkhiaaGreatDoorDrw
namespace Go.Proofs.YtfmfjbphflkhiaaGreatDoor
set_option linter.unusedVariables false
set_option linter.unusedSimpArgs false
open Go.RowKit

set_option maxHeartbeats 1000000 in
theorem l2Trim_any (s : ByteArray) (hs : s.size ≤ maxLen) (w : World) : Calls Tryz.prog 44 #[.string s] w fun e w' => e = .returned (.string (bStr (trimL s.data.toList))) ∧ w = w' := by
  unfold maxLen at hs
  go_enter Tryz.func44, Tryz.ntmps44
  go_wp2_with fail
  go_loopg [0] s.size (fun g s0 wr => ∃ c : ByteArray, g = c.size ∧ c.size ≤ s.size ∧ s0 = .string c ∧ Hid (trimL c.data.toList = trimL s.data.toList) ∧ wr = w)
  case atStart => exact ⟨s, rfl, Nat.le_refl _, rfl, Lib.hid rfl, rfl⟩
  case round =>
    obtain ⟨c, rfl, hc, rfl, HT, rfl⟩ := hrel
    by_cases hz : 1 < c.size
    · have hz0 : 0 < c.size := by omega
      by_cases h48 : c[0].toNat = 48
      · have HE := Lib.hid (trimL_step c hz h48)
        have HZ := Lib.hid (extract_size c)
        go_wp2_with fail
        go_roundg (c.size - 1)
        case measure => omega
        case rel => exact ⟨c.extract 1 c.size, HZ.out.symm, by rw [HZ.out]; omega, rfl, Lib.hid (HE.out.trans HT.out), rfl⟩
      · have HE := Lib.hid (trimL_stop c (.inr ⟨hz0, h48⟩))
        have hb : ((c[0].toNat : Int) == 48) = false := by simp; omega
        clear h48
        go_wp2_with fail
        go_ret
        exact ⟨by rw [← HT.out, HE.out, bStr_of]; rfl, rfl⟩
    · have hz' : c.size ≤ 1 := by omega
      have HE := Lib.hid (trimL_stop c (.inl hz'))
      clear hz
      go_wp2_with fail
      go_ret
      exact ⟨by rw [← HT.out, HE.out, bStr_of]; rfl, rfl⟩

end Go.Proofs.YtfmfjbphflkhiaaGreatDoor
