/- The exact law on AnsweredBy. -/
import Derived.Test.YtfhefngpeknhlaaDoorAnsI
import Derived.Test.YtfhefngpeknhlaaDoorMkT
namespace Go.Proofs.YtfhefngpeknhlaaDoor
set_option linter.unusedVariables false
set_option linter.unusedSimpArgs false
open Go.RowKit

theorem abN_6 (S : Nat → Nat → ByteArray) (n : Nat) (way : Int) : abN S n way ≤ 6 := by
  unfold abN
  split
  · rename_i h; exact tokB_len h.1
  · omega
set_option maxRecDepth 20000 in
set_option maxHeartbeats 4000000 in
theorem law_ExactAnsweredBy (A : Option Addr) (len cap : Nat) (way : Int) (wd : (Lit.int .i64 way).wf = true) (w : World) (hin : RecsIn Tryd.prog w A len cap 3 StrField) :
    Calls Tryd.prog 5 #[.slice A len cap, .int .i64 way] w fun e w' => e = .returned (.bool true) ∧ Below w.heap.size w w' := by
  obtain ⟨S, hR, hS⟩ := tests_in hin
  have HS := Lib.hid hS
  have CI := Lib.hid fun W B v hRw hBW => iAnswered W B v len S way hRw hBW hS
  have CS := Lib.hid fun W B v hRw hBW => sAnswered W B v len S way hRw hBW hS
  have hm6 := abN_6 S len way
  clear hin hS
  generalize abS S way = G at *
  generalize abN S len way = m at *
  go_enter Tryd.func5, Tryd.ntmps5
  go_wp2_with fail
  refine (szTestS_any _ _ _ len S _ hR (Nat.le_refl _) HS.out (by omega) (by omega)).mono ?_
  rintro e w0 ⟨r, rfl, hr0, hr1, hr2, b0⟩
  by_cases hbig : r < 0
  · go_wp2_with fail
    go_ret
    exact ⟨rfl, b0⟩
  have hpos : 0 ≤ r := by omega
  have hs : len ≤ 1048576 := hr2 hpos
  clear hbig hr2
  have hR0 := hR.below b0 (Nat.le_refl _)
  go_wp2_with fail
  refine (toTestS_any _ _ _ _ S hR0 b0.size hs).mono ?_
  rintro e w1 ⟨v1, rfl, o1, b1⟩
  have hB1 := below_own b0 b1 b0.size
  go_wp2_with fail
  refine (CS.out _ _ v1 (Recs.of_own o1) (Nat.le_refl _)).mono ?_
  rintro e w2 ⟨v2, rfl, o2, b2⟩
  have s2 := Recs.of_own (Own.of_row o2)
  have hB2 := below_own hB1 b2 hB1.size
  have hR2 := hR.below hB2 (Nat.le_refl _)
  have hs2 := hB2.size
  clear o1 b1 b2 b0 hB1 hR0 o2
  go_wp2_with fail
  refine (toTestS_any _ _ _ _ S hR2 (by omega) hs).mono ?_
  rintro e w3 ⟨v3, rfl, o3, b3⟩
  have hB3 := below_own hB2 b3 hs2
  have s3 := s2.below b3 (Nat.le_refl _)
  have hs3 := b3.size
  have hrow3 := o3.lt
  go_wp2_with fail
  refine (CI.out _ _ v3 (Recs.of_own o3) (Nat.le_refl _)).mono ?_
  rintro e w4 ⟨v4, rfl, o4, b4⟩
  have hB4 := below_own hB3 b4 hB3.size
  have s4 := s3.below b4 hs3
  have p4 := o3.below b4
  have hs4 := b4.size
  have hrow4 := o4.lt
  clear s2 s3 o3 b3 b4 hR2 hB2 hB3
  go_wp2_with fail
  refine (eqTestS_t _ w4.heap.size _ _ m G (Recs.of_own o4) (s4.mono (by omega)) (Nat.le_refl _)).mono ?_
  rintro e w5 ⟨rfl, b5⟩
  have hB5 := below_own hB4 b5 hB4.size
  have s5 := s4.below b5 (by omega)
  have p5 := p4.below b5
  have o5 := o4.below b5
  have hR5 := hR.below hB5 (Nat.le_refl _)
  have hs5 := b5.size
  clear s4 p4 o4 b5 hB4
  go_wp2_with fail
  refine (toTestS_any _ _ _ _ S hR5 hB5.size hs).mono ?_
  rintro e w6 ⟨v6, rfl, o6, b6⟩
  have hB6 := below_own hB5 b6 hB5.size
  have s6 := s5.below b6 (by omega)
  have p6 := p5.below b6
  have q6 := o5.below b6
  have hs6 := b6.size
  clear s5 p5 o5 b6 hB5 hR5
  go_wp2_with fail
  refine (eqTestS_t _ w6.heap.size _ _ len S (Recs.of_own p6) (Recs.of_own o6) (Nat.le_refl _)).mono ?_
  rintro e w7 ⟨rfl, b7⟩
  have hB7 := below_own hB6 b7 hB6.size
  have s7 := s6.below b7 (by omega)
  have p7 := p6.below b7
  have q7 := q6.below b7
  have hs7 := b7.size
  clear s6 p6 q6 b7 hB6 o6
  go_wp2_with fail
  refine (markTestS_any _ _ v3 len S p7 hs).mono ?_
  rintro e w8 ⟨rfl, p8, g8⟩
  have s8 := s7.grown g8 (by omega) (fun k hk => (hrow3 k hk).1)
  have q8 := q7.grown g8 (by
    cases h4 : v4.ownBlock with
    | none => exact .inl rfl
    | some k => exact .inr fun e => by have h5 := (hrow4 k h4).1; have h6 := (hrow3 k e.symm).2; omega)
  have hB8 := hB7.grown g8 hB7.size (fun k hk => by have := (hrow3 k hk).1; omega)
  have hs8 := g8.size
  clear s7 p7 q7 g8 hB7 p8 hrow3
  go_wp2_with fail
  refine (eqTestS_t _ w8.heap.size _ _ m G (Recs.of_own q8) (s8.mono (by omega)) (Nat.le_refl _)).mono ?_
  rintro e w9 ⟨rfl, b9⟩
  have hB9 := below_own hB8 b9 hB8.size
  have s9 := s8.below b9 (by omega)
  have q9 := q8.below b9
  have hs9 := b9.size
  clear s8 q8 b9 hB8
  go_wp2_with fail
  refine (markTestS_any _ _ v4 m G q9 (by omega)).mono ?_
  rintro e w10 ⟨rfl, o10, g10⟩
  have s10 := s9.grown g10 (by omega) (fun k hk => by have := (hrow4 k hk).1; omega)
  have hB10 := hB9.grown g10 hB9.size (fun k hk => by have := (hrow4 k hk).1; omega)
  have hs10 := g10.size
  have m10 := Recs.of_own o10
  clear s9 q9 g10 hB9 o10 hrow4
  go_wp2_with fail
  refine (heldTestS_any _ _ _ m m10 (by omega) (Nat.le_refl _)).mono ?_
  rintro e w11 ⟨rfl, b11⟩
  have hB11 := below_own hB10 b11 hB10.size
  have s11 := s10.below b11 (by omega)
  have m11 := m10.below b11 (Nat.le_refl _)
  have hR11 := hR.below hB11 (Nat.le_refl _)
  have hs11 := b11.size
  clear s10 m10 b11 hB10
  go_wp2_with fail
  refine (toTestS_any _ _ _ _ S hR11 hB11.size hs).mono ?_
  rintro e w12 ⟨v12, rfl, o12, b12⟩
  have hB12 := below_own hB11 b12 hB11.size
  have s12 := s11.below b12 (by omega)
  have m12 := m11.below b12 (by omega)
  have hs12 := b12.size
  clear s11 m11 b12 hB11 hR11
  go_wp2_with fail
  refine (CI.out _ _ v12 (Recs.of_own o12) (Nat.le_refl _)).mono ?_
  rintro e w13 ⟨v13, rfl, o13, b13⟩
  have hB13 := below_own hB12 b13 hB12.size
  have s13 := s12.below b13 (by omega)
  have m13 := m12.below b13 (by omega)
  have hs13 := b13.size
  clear s12 m12 b13 hB12 o12
  go_wp2_with fail
  refine (eqTestS_t _ w13.heap.size _ _ m G (Recs.of_own o13) (s13.mono (by omega)) (Nat.le_refl _)).mono ?_
  rintro e w14 ⟨rfl, b14⟩
  have m14 := m13.below b14 (by omega)
  have hB14 := below_own hB13 b14 hB13.size
  have hs14 := b14.size
  clear s13 m13 o13 b14 hB13
  go_wp2_with fail
  refine (heldTestS_any _ _ _ m m14 (by omega) (by omega)).mono ?_
  rintro e w15 ⟨rfl, b15⟩
  have hB15 := below_own hB14 b15 hB14.size
  go_wp2_with fail
  go_ret
  exact ⟨rfl, hB15⟩
end Go.Proofs.YtfhefngpeknhlaaDoor
