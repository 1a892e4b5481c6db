/- The exact law on DividedOf. -/
import Derived.Test.YtjhidenjlkdpeaaDivided
import Derived.Test.YtjhidenjlkdpeaaStepS
namespace Go.Proofs.Ytjhidenjlkdpeaa
set_option linter.unusedVariables false
set_option linter.unusedSimpArgs false
open Go.RowKit

set_option maxHeartbeats 2000000 in
theorem law_ExactDividedOf (s : ByteArray) (hs : s.size ≤ maxLen) (d : Int) (wd : (Lit.int .i64 d).wf = true) (w : World) :
    Calls Try.prog 12 #[.string s, .int .i64 d] w fun e w' => e = .returned (.bool true) ∧ Below w.heap.size w w' := by
  have hlen := dvN_len s d
  have cs := fun W => sDivided s hs d W
  have ci := fun W => iDivided s hs d W
  unfold maxLen at hs
  by_cases hbig : 1048576 < s.size
  · clear cs ci
    go_enter Try.func12, Try.ntmps12
    go_wp2_with fail
    go_ret
    exact ⟨rfl, Below.refl _ _⟩
  generalize dvN s d = n at *
  generalize dvF s.data.toList d = F at *
  have CS := Lib.hid cs
  have CI := Lib.hid ci
  clear cs ci
  go_enter Try.func12, Try.ntmps12
  go_wp2_with fail
  refine (CS.out _).mono ?_
  rintro e w1 ⟨v0, rfl, o0, b1⟩
  go_wp2_with fail
  refine (CI.out _).mono ?_
  rintro e w2 ⟨v1, rfl, o1, b2⟩
  have s0 := (Recs.of_own o0).below b2 (Nat.le_refl _)
  go_wp2_with fail
  refine (eqStepS_t _ w2.heap.size _ _ n F (Recs.of_own o1) (s0.mono b2.size) (Nat.le_refl _)).mono ?_
  rintro e w3 ⟨rfl, b3⟩
  have s0' := s0.below b3 b2.size
  have o1' := o1.below b3
  clear s0 o0 o1
  go_wp2_with fail
  refine (markStepS_any _ _ _ n F o1' (by omega)).mono ?_
  rintro e w4 ⟨rfl, o4, g4⟩
  have hrow : ∀ k, v1.ownBlock = some k → w1.heap.size ≤ k := fun k hk => (o1'.lt k hk).1
  have s4 := s0'.keep (w' := w4) fun b o hb => World.cell?_of_block (g4.block b (by have := b2.size; have := b3.size; omega) (fun e => by have := hrow b e.symm; omega))
  have hB4 : Below w.heap.size w w4 := (below_own (below_own b1 b2 b1.size) b3 (by have := b1.size; have := b2.size; omega)).grown g4 (by have := b1.size; have := b2.size; have := b3.size; omega) (fun k hk => by have := hrow k hk; have := b1.size; omega)
  have hs4 : w1.heap.size ≤ w4.heap.size := by have := b2.size; have := b3.size; have := g4.size; omega
  clear s0' o1' hrow b1 b2 b3 g4
  have m4 := Recs.of_own o4
  go_wp2_with fail
  refine (heldStepS_any _ _ _ n m4 (by omega)).mono ?_
  rintro e w5 ⟨rfl, rfl⟩
  go_wp2_with fail
  refine (CI.out _).mono ?_
  rintro e w6 ⟨v2, rfl, o6, b6⟩
  have s6 := s4.below b6 hs4
  have m6 := m4.below b6 (Nat.le_refl _)
  have hs6 := b6.size
  go_wp2_with fail
  refine (eqStepS_t _ w6.heap.size _ _ n F (Recs.of_own o6) (s6.mono (by omega)) (Nat.le_refl _)).mono ?_
  rintro e w7 ⟨rfl, b7⟩
  have m7 := m6.below b7 hs6
  clear s4 s6 o6 m4 m6 o4
  go_wp2_with fail
  refine (heldStepS_any _ _ _ n m7 (by omega)).mono ?_
  rintro e w8 ⟨rfl, rfl⟩
  go_wp2_with fail
  go_ret
  exact ⟨rfl, below_own (below_own hB4 b6 hB4.size) b7 (by have := hB4.size; omega)⟩
end Go.Proofs.Ytjhidenjlkdpeaa
