/- The laws on ResultOf and QuotientOf. -/
import Derived.Test.YtfmfjbphflkhiaaDoorQuo
import Derived.Test.YtfmfjbphflkhiaaDoorDvL
import Derived.Deep.RegionHeld3
namespace Go.Proofs.YtfmfjbphflkhiaaDoor
set_option linter.unusedVariables false
set_option linter.unusedSimpArgs false
open Go.RowKit



/-- What the law wants of a quotient. -/
theorem qu_all {s : ByteArray} {d : Int} (h : quB s d = true) : 1 ≤ d ∧ d ≤ 99 ∧ 0 ≤ valO s.data.toList ∧ valO s.data.toList < 1000000000 ∧ valO (quS s d).data.toList = valO s.data.toList / d ∧ quR s d = valO s.data.toList % d := by
  have hz : dvN s d ≠ 0 := (rsOk_steps h).1
  obtain ⟨hn, h1, h2, e, _, _⟩ := dv_ok s d hz
  obtain ⟨_, _, _, _, _, ha, hb, hc⟩ := rs_all h
  have hd := dvd_dv s d hz
  rw [hd] at ha
  have hl := numB_len hn
  rw [str_len] at hl
  have hv : valO s.data.toList = val s.data.toList := if_pos hn
  have hr := val_range (numB_all hn)
  rw [str_len] at hr
  have hp := pow_small s.size hl.2
  rw [← hv] at hr
  have ha' : valO s.data.toList = quR s d + d * valO (quS s d).data.toList := by
    rw [← ha, Int.mul_comm d]
    exact Int.add_comm _ _
  have hb' : 0 ≤ quR s d := hb
  have hc' : quR s d < d := hc
  refine ⟨h1, h2, hr.1, by omega, ?_, ?_⟩
  · rw [ha', Int.add_mul_ediv_left _ _ (by omega), Int.ediv_eq_zero_of_lt hb' hc', Int.zero_add]
  · rw [ha', Int.add_mul_emod_self_left, Int.emod_eq_of_lt hb' hc']

end Go.Proofs.YtfmfjbphflkhiaaDoor
