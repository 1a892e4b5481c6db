/- The law on ChecksOut: what checks out is right but for ninety-nines. -/
import Derived.Test.YtfmfjbphflkhiaaDoorPro
import Derived.Test.YtfmfjbphflkhiaaDoorBth
import Derived.Test.YtfmfjbphflkhiaaDoorChk
namespace Go.Proofs.YtfmfjbphflkhiaaDoor
set_option linter.unusedVariables false
set_option linter.unusedSimpArgs false
open Go.RowKit

theorem cut_size {p d : ByteArray} {k : Nat} (hp : p.size ≤ 9) (hd : d.size = 1) : (p.extract 0 k ++ d ++ p.extract (k + 1) p.size).size ≤ 110 := by
  rw [ByteArray.size_append, ByteArray.size_append, ByteArray.size_extract, ByteArray.size_extract]
  omega
/-- Three texts, drawn. -/
def DrawSSS (w : World) (e : Ending) (w' : World) : Prop := ∃ s t p, e = .returned (.tuple #[.string s, .string t, .string p]) ∧ s.size ≤ 110 ∧ t.size ≤ 110 ∧ p.size ≤ 110 ∧ Below w.heap.size w w'
set_option maxRecDepth 20000 in
set_option maxHeartbeats 2000000 in
theorem draw_Chk (A : Option Addr) (len cap : Nat) (w : World) (hc : CodeIn w A len cap) : Calls Tryd.prog 25 #[.slice A len cap] w (DrawSSS w) := by
  go_enter Tryd.func25, Tryd.ntmps25
  go_wp2_with fail
  refine (open_any A len cap _ hc).mono ?_
  rintro e w0 ⟨rfl, hR0, hB0⟩
  have hsz := hB0.size
  go_wp2_with fail
  refine (both_any _ _ _ _ hR0 (by omega) (by omega) (by omega)).mono ?_
  rintro e w1 ⟨s, t, rfl, hs, ht, p1, hp1, hR1, hg1⟩
  go_wp2_with fail
  refine (sProductOf s t (by unfold maxLen; omega) (by unfold maxLen; omega) _).mono ?_
  rintro e w2 ⟨rfl, b2⟩
  have hR2 := hR1.below b2 hR1.lt
  have hG2 := hg1.trans (grown_of_below b2 (some w.heap.size))
  have hx := prS_size s.data.toList t.data.toList
  generalize prS s.data.toList t.data.toList = x at *
  generalize prB s.data.toList t.data.toList = ok at *
  clear hR1 hg1 b2 hR0
  cases ok with
  | false =>
    go_wp2_with fail
    refine (numeral_any _ _ _ _ _ hR2 (by omega) (by omega) (by omega) (by omega) (by omega)).mono ?_
    rintro e w3 ⟨y, rfl, hy, p3, hp3, hR3, hg3⟩
    have hB3 := hB0.grown (hG2.trans hg3) hB0.size (fun k hk => by cases hk; exact Nat.le_refl _)
    go_wp2_with fail
    go_ret3
    exact ⟨s, t, y, rfl, hs, ht, hy, hB3⟩
  | true =>
    go_wp2_with fail
    refine (pick_any _ _ _ _ hR2 (by omega)).mono ?_
    rintro e w3 ⟨u, rfl, hu, hz3, hR3, hg3⟩
    have hG3 := hG2.trans hg3
    clear hu hz3 hR2 hG2 hg3
    by_cases hu0 : u = 0
    · have t0 : (u == 0) = true := by rw [hu0]; rfl
      clear hu0
      go_wp2_with fail
      refine (numeral_any _ _ _ _ _ hR3 (by omega) (by omega) (by omega) (by omega) (by omega)).mono ?_
      rintro e w4 ⟨y, rfl, hy, p4, hp4, hR4, hg4⟩
      have hB4 := hB0.grown (hG3.trans hg4) hB0.size (fun k hk => by cases hk; exact Nat.le_refl _)
      go_wp2_with fail
      go_ret3
      exact ⟨s, t, y, rfl, hs, ht, hy, hB4⟩
    · have t0 : (u == 0) = false := beq_eq_false_iff_ne.2 hu0
      clear hu0
      go_wp2_with fail
      refine (pick_any _ _ _ _ hR3 (by omega)).mono ?_
      rintro e w4 ⟨v, rfl, hv, hz4, hR4, hg4⟩
      have hG4 := hG3.trans hg4
      clear hv hz4 hR3 hG3 hg4
      by_cases hv0 : v = 0
      · have t1 : (v == 0) = true := by rw [hv0]; rfl
        clear hv0
        by_cases hl : 1 < x.size
        · have hli : (1 : Int) < (x.size : Int) := by omega
          go_wp2_with fail
          refine (pick_any _ _ _ _ hR4 (by omega)).mono ?_
          rintro e w5 ⟨q, rfl, hq, hz5, hR5, hg5⟩
          obtain ⟨hq0, hq1⟩ := hq (by omega)
          obtain ⟨m, rfl⟩ := Int.eq_ofNat_of_zero_le hq0
          have hG5 := hG4.trans hg5
          clear hq hz5 hR4 hG4 hg5
          have k0 : (0 : Int) ≤ (m : Int) + 1 := by omega
          have k1 : (m : Int) + 1 ≤ (x.size : Int) := by omega
          have k2 : (m : Int) + 1 + 1 ≤ (x.size : Int) := by omega
          have k3 : (0 : Int) ≤ (m : Int) + 1 + 1 := by omega
          have k4 : IntKind.i64.wrap ((m : Int) + 1 + 1) = (m : Int) + 1 + 1 := by rw [IntKind.wrap_i64]; omega
          have k5 : ((m : Int) + 1).toNat = m + 1 := by omega
          have k6 : ((m : Int) + 1 + 1).toNat = m + 1 + 1 := by omega
          have c1 : ¬ 9223372036854775807 < min (m + 1) x.size + 1 := by omega
          have c2 : ¬ 9223372036854775807 < min (m + 1) x.size + 1 + (x.size - (m + 1 + 1)) := by omega
          have hR5d : Rdr w5.drew w.heap.size (p1 + 1 + 1 + 1) := hR5.keep fun _ _ => rfl
          go_wp2_with fail
          go_region_held3 (fun _ => True) (trivial) (first | (go_at_call 39; (first | refine (pick_any _ _ _ _ hR5 (by omega)).mono ?_ | refine (pick_any _ _ _ _ hR5d (by omega)).mono ?_); rintro e w6 ⟨z, rfl, hz, hz6, hR6, hg6⟩; obtain ⟨z0, z1⟩ := hz (by omega)) | (go_at_call 35; refine (numDig _ _ z0 (by omega)).mono ?_; rintro e w7 ⟨rfl, b7⟩; have hd1 := dStr_size z.toNat; generalize dStr z.toNat = y at *))
          all_goals go_wp2_with fail
          all_goals (have hgd : w5.grownBy w5.drew (some w.heap.size) := ⟨rfl, rfl, rfl, Nat.le_refl _, fun _ _ _ => rfl⟩)
          all_goals (have hB7 : Below w.heap.size w w7 := (hB0.grown (((hG5.trans hgd).trans hg6).trans (grown_of_below b7 _)) hB0.size (fun k hk => by cases hk; exact Nat.le_refl _)))
          all_goals go_ret3
          all_goals exact ⟨s, t, _, rfl, hs, ht, cut_size hx hd1, hB7⟩
        · have hB4 := hB0.grown hG4 hB0.size (fun k hk => by cases hk; exact Nat.le_refl _)
          have hli : ¬ (1 : Int) < (x.size : Int) := by omega
          go_wp2_with fail
          go_ret3
          exact ⟨s, t, x, rfl, hs, ht, by omega, hB4⟩
      · have t1 : (v == 0) = false := beq_eq_false_iff_ne.2 hv0
        have hB4 := hB0.grown hG4 hB0.size (fun k hk => by cases hk; exact Nat.le_refl _)
        clear hv0
        go_wp2_with fail
        go_ret3
        exact ⟨s, t, x, rfl, hs, ht, by omega, hB4⟩

theorem vals_sub {a b c : Int} (ha : 0 ≤ a ∧ a < 1000000000) (hb : 0 ≤ b ∧ b < 1000000000) (hc : 0 ≤ c ∧ c < 1000000000) : IntKind.i64.wrap (a * b) = a * b ∧ IntKind.i64.wrap (a * b - c) = a * b - c ∧ ((a * b - c).tmod 99 == 0) = ((a * b - c) % 99 == 0) ∧ 0 ≤ a * b ∧ a * b ≤ 1000000000000000000 := by
  have h := prod_range (A := 1000000000) (B := 1000000000) ⟨ha.1, by omega⟩ ⟨hb.1, by omega⟩
  have h1 := h.1
  have h2 := h.2
  refine ⟨?_, ?_, ?_, h.1, h.2⟩
  · rw [IntKind.wrap_i64]; omega
  · rw [IntKind.wrap_i64]; omega
  · rw [Bool.eq_iff_iff, beq_iff_eq, beq_iff_eq]
    exact ⟨fun h => Int.emod_eq_zero_of_dvd (Int.dvd_of_tmod_eq_zero h), fun h => Int.tmod_eq_zero_of_dvd (Int.dvd_of_emod_eq_zero h)⟩

set_option maxRecDepth 20000 in
set_option maxHeartbeats 4000000 in
/-- The law on ChecksOut. -/
theorem law_ChecksOut (A : Option Addr) (len cap : Nat) (w : World) (hc : CodeIn w A len cap) :
    Calls Tryd.prog 6 #[.slice A len cap] w fun e w' => e = .returned (.bool true) ∧ Below w.heap.size w w' := by
  have hlc := hc.1
  have hcm := hc.2.1
  unfold maxLen at hcm
  by_cases hbig : 1048576 < len
  · go_enter Tryd.func6, Tryd.ntmps6
    go_wp2_with fail
    go_ret
    exact ⟨rfl, Below.refl _ _⟩
  have hbig' : len ≤ 1048576 := by omega
  clear hbig
  go_enter Tryd.func6, Tryd.ntmps6
  go_wp2_with fail
  refine (draw_Chk A len cap _ hc).mono ?_
  rintro e w1 ⟨s, t, p, rfl, hs, ht, hp, b1⟩
  clear hc
  have hsm : s.size ≤ maxLen := by unfold maxLen; omega
  have htm : t.size ≤ maxLen := by unfold maxLen; omega
  have hpm : p.size ≤ maxLen := by unfold maxLen; omega
  have CI := Lib.hid fun W => iChecksOut s t p hsm htm hpm W
  have CS := Lib.hid fun W => sChecksOut s t p hsm htm hpm W
  have CNs := Lib.hid fun W => sNum s hsm W
  have CNt := Lib.hid fun W => sNum t htm W
  have CNp := Lib.hid fun W => sNum p hpm W
  have CVs := Lib.hid fun W => value_any s hsm W
  have CVt := Lib.hid fun W => value_any t htm W
  have CVp := Lib.hid fun W => value_any p hpm W
  have H1 := Lib.hid fun h => ch_no1 (s := s.data.toList) (t := t.data.toList) (p := p.data.toList) h
  have H2 := Lib.hid fun h => ch_no2 (s := s.data.toList) (t := t.data.toList) (p := p.data.toList) h
  have H3 := Lib.hid fun h => ch_no3 (s := s.data.toList) (t := t.data.toList) (p := p.data.toList) h
  have HI := Lib.hid fun h1 h2 h3 => ch_iff (s := s.data.toList) (t := t.data.toList) (p := p.data.toList) h1 h2 h3
  have HV := Lib.hid fun h1 h2 h3 => vals_sub (valO_range (l := s.data.toList) h1) (valO_range (l := t.data.toList) h2) (valO_range (l := p.data.toList) h3)
  clear hsm htm hpm
  generalize chB s.data.toList t.data.toList p.data.toList = ok at *
  have tok : (ok != ok) = false := by cases ok <;> rfl
  generalize valO s.data.toList = a at *
  generalize valO t.data.toList = b at *
  generalize valO p.data.toList = c at *
  generalize numB s.data.toList = n1 at *
  generalize numB t.data.toList = n2 at *
  generalize numB p.data.toList = n3 at *
  go_wp2_with fail
  refine (CI.out _).mono ?_
  rintro e w2 ⟨rfl, b2⟩
  have hB2 := below_own b1 b2 b1.size
  clear b1 b2
  go_wp2_with fail
  refine (CS.out _).mono ?_
  rintro e w3 ⟨rfl, b3⟩
  have hB3 := below_own hB2 b3 hB2.size
  clear hB2 b3
  go_wp2_with fail
  refine (CNs.out _).mono ?_
  rintro e w' ⟨rfl, rfl⟩
  cases n1 with
  | false =>
    obtain rfl := H1.out rfl
    go_wp2_with (go_at_call 11; refine (alive_any _).mono ?_; rintro e w' ⟨rfl, rfl⟩)
    go_ret
    exact ⟨rfl, hB3⟩
  | true =>
  go_wp2_with fail
  refine (CNt.out _).mono ?_
  rintro e w' ⟨rfl, rfl⟩
  cases n2 with
  | false =>
    obtain rfl := H2.out rfl
    go_wp2_with (go_at_call 11; refine (alive_any _).mono ?_; rintro e w' ⟨rfl, rfl⟩)
    go_ret
    exact ⟨rfl, hB3⟩
  | true =>
  go_wp2_with fail
  refine (CNp.out _).mono ?_
  rintro e w' ⟨rfl, rfl⟩
  cases n3 with
  | false =>
    obtain rfl := H3.out rfl
    go_wp2_with (go_at_call 11; refine (alive_any _).mono ?_; rintro e w' ⟨rfl, rfl⟩)
    go_ret
    exact ⟨rfl, hB3⟩
  | true =>
  have hI := HI.out (by first | rfl | trivial) (by first | rfl | trivial) (by first | rfl | trivial)
  obtain ⟨v1, v2, v3, v4, v5⟩ := HV.out (by first | rfl | trivial) (by first | rfl | trivial) (by first | rfl | trivial)
  rw [← hI] at v3
  clear hI HI HV H1 H2 H3
  go_wp2_with fail
  refine (CVs.out _).mono ?_
  rintro e w4 ⟨rfl, b4⟩
  have hB4 := below_own hB3 b4 hB3.size
  clear hB3 b4
  go_wp2_with fail
  refine (CVt.out _).mono ?_
  rintro e w5 ⟨rfl, b5⟩
  have hB5 := below_own hB4 b5 hB4.size
  clear hB4 b5
  go_wp2_with fail
  refine (CVp.out _).mono ?_
  rintro e w6 ⟨rfl, b6⟩
  have hB6 := below_own hB5 b6 hB5.size
  clear hB5 b6
  have teq : (ok == ok) = true := beq_self_eq_true _
  go_wp2_with fail
  go_ret
  exact ⟨by first | rfl | simp, hB6⟩
end Go.Proofs.YtfmfjbphflkhiaaDoor
