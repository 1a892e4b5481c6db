/- The laws on ResultOf and QuotientOf. -/
import Derived.Test.YtcpkjlgebghkgaaDoorQuo
import Derived.Test.YtcpkjlgebghkgaaDoorDvL
import Derived.Deep.RegionHeld3
namespace Go.Proofs.YtcpkjlgebghkgaaDoor
set_option linter.unusedVariables false
set_option linter.unusedSimpArgs false
open Go.RowKit

set_option maxRecDepth 20000 in
set_option maxHeartbeats 4000000 in
/-- The law on ResultOf: quotient times divisor, and what is left, are the dividend. -/
theorem law_ResultOf (A : Option Addr) (len cap : Nat) (w : World) (hc : CodeIn w A len cap) :
    Calls Tryd.prog 14 #[.slice A len cap] w fun e w' => e = .returned (.bool true) ∧ Below w.heap.size w w' := by
  have hlc := hc.1
  have hcm := hc.2.1
  unfold maxLen at hcm
  by_cases hbig : 1048576 < len
  · go_enter Tryd.func14, Tryd.ntmps14
    go_wp2_with fail
    go_ret
    exact ⟨rfl, Below.refl _ _⟩
  have hbig' : len ≤ 1048576 := by omega
  clear hbig
  go_enter Tryd.func14, Tryd.ntmps14
  go_wp2_with fail
  refine (draw_Result A len cap _ hc).mono ?_
  rintro e w1 ⟨v, d, n, F, rfl, hn, hd0, hd1, ho, b1⟩
  clear hc
  have hR := Recs.of_own ho
  clear ho
  have CD := Lib.hid fun W hR hB => iDividend W w1.heap.size v n F d hR hB
  have CI := Lib.hid fun W hR hB => iResult W w1.heap.size v n F d hR hB
  have CS := Lib.hid fun W hR hB => sResult W w1.heap.size v n F d hR hB
  cases hok : rsOk F n d with
  | false =>
    have H1 := (rs_none hok).1
    have H2 := (rs_none hok).2.1
    rw [H1, H2, hok] at CI CS
    clear H1 H2 hok CD
    go_wp2_with fail
    refine (CI.out _ hR (Nat.le_refl _)).mono ?_
    rintro e w2 ⟨rfl, b2⟩
    have hR2 := hR.below b2 (Nat.le_refl _)
    have hB2 := below_own b1 b2 b1.size
    have hs2 := b2.size
    clear b1 b2 hR
    go_wp2_with fail
    refine (CS.out _ hR2 hs2).mono ?_
    rintro e w3 ⟨rfl, b3⟩
    have hB3 := below_own hB2 b3 hB2.size
    go_wp2_with (go_at_call 19; refine (alive_any _).mono ?_; rintro e w' ⟨rfl, rfl⟩)
    go_ret
    exact ⟨rfl, hB3⟩
  | true =>
    obtain ⟨HA1, HA2, HA3, HA4, HA5, HA6, HA7, HA8⟩ := rs_all hok
    have hsz1 : (resS F n d).size ≤ maxLen := by have := plS_size (colL F 2 n); rw [(rs_yes hok).1]; unfold maxLen; omega
    have hsz2 : (dvdS F n d).size ≤ maxLen := by have := plS_size (colL F 1 n); rw [(rs_yes hok).2.2]; unfold maxLen; omega
    have CN := Lib.hid fun W => iNum (resS F n d) hsz1 W
    have CV1 := Lib.hid fun W => value_any (resS F n d) hsz1 W
    have CV2 := Lib.hid fun W => value_any (dvdS F n d) hsz2 W
    rw [HA1] at CN
    rw [hok] at CD CI CS
    clear hok HA1 HA2 HA3 hsz1 hsz2
    generalize valO (resS F n d).data.toList = q at *
    generalize valO (dvdS F n d).data.toList = z at *
    generalize dvdS F n d = x at *
    generalize resS F n d = s at *
    generalize resR F n d = r at *
    have hm0 : 0 ≤ q * d := Int.mul_nonneg HA4 hd0
    have hm1 : q * d ≤ 1000000000 * 99 := Int.mul_le_mul (by omega) hd1 hd0 (by decide)
    go_wp2_with fail
    refine (CI.out _ hR (Nat.le_refl _)).mono ?_
    rintro e w2 ⟨rfl, b2⟩
    have hR2 := hR.below b2 (Nat.le_refl _)
    have hB2 := below_own b1 b2 b1.size
    have hs2 := b2.size
    clear b1 b2 hR
    go_wp2_with fail
    refine (CS.out _ hR2 hs2).mono ?_
    rintro e w3 ⟨rfl, b3⟩
    have hR3 := hR2.below b3 hs2
    have hB3 := below_own hB2 b3 hB2.size
    have hs3 := b3.size
    clear hR2 hB2 b3
    go_wp2_with fail
    refine (CD.out _ hR3 (by omega)).mono ?_
    rintro e w4 ⟨rfl, b4⟩
    have hB4 := below_own hB3 b4 hB3.size
    clear hR3 hB3 b4 CD CI CS
    go_wp2_with fail
    refine (CN.out _).mono ?_
    rintro e w5 ⟨rfl, rfl⟩
    go_wp2_with fail
    refine (CV1.out _).mono ?_
    rintro e w5 ⟨rfl, b5⟩
    have hB5 := below_own hB4 b5 hB4.size
    go_wp2_with fail
    refine (CV2.out _).mono ?_
    rintro e w6 ⟨rfl, b6⟩
    have hB6 := below_own hB5 b6 hB5.size
    go_wp2_with fail
    go_ret
    exact ⟨rfl, hB6⟩

set_option maxRecDepth 20000 in
theorem draw_Quotient (A : Option Addr) (len cap : Nat) (w : World) (hc : CodeIn w A len cap) : Calls Tryd.prog 51 #[.slice A len cap] w (DrawSI w) := by
  go_enter Tryd.func51, Tryd.ntmps51
  go_wp2_with fail
  refine (draw_Divided A len cap _ hc).mono ?_
  rintro e w1 ⟨s, d, rfl, hs, hd0, hd1, b1⟩
  go_wp2_with fail
  go_ret2
  exact ⟨s, d, rfl, hs, hd0, hd1, b1⟩

/-- What the law wants of a quotient. -/
theorem qu_all {s : ByteArray} {d : Int} (h : quB s d = true) : 1 ≤ d ∧ d ≤ 99 ∧ 0 ≤ valO s.data.toList ∧ valO s.data.toList < 1000000000 ∧ valO (quS s d).data.toList = valO s.data.toList / d ∧ quR s d = valO s.data.toList % d := by
  have hz : dvN s d ≠ 0 := (rsOk_steps h).1
  obtain ⟨hn, h1, h2, e, _, _⟩ := dv_ok s d hz
  obtain ⟨_, _, _, _, _, ha, hb, hc⟩ := rs_all h
  have hd := dvd_dv s d hz
  rw [hd] at ha
  have hl := numB_len hn
  rw [str_len] at hl
  have hv : valO s.data.toList = val s.data.toList := if_pos hn
  have hr := val_range (numB_all hn)
  rw [str_len] at hr
  have hp := pow_small s.size hl.2
  rw [← hv] at hr
  have ha' : valO s.data.toList = quR s d + d * valO (quS s d).data.toList := by
    rw [← ha, Int.mul_comm d]
    exact Int.add_comm _ _
  have hb' : 0 ≤ quR s d := hb
  have hc' : quR s d < d := hc
  refine ⟨h1, h2, hr.1, by omega, ?_, ?_⟩
  · rw [ha', Int.add_mul_ediv_left _ _ (by omega), Int.ediv_eq_zero_of_lt hb' hc', Int.zero_add]
  · rw [ha', Int.add_mul_emod_self_left, Int.emod_eq_of_lt hb' hc']

set_option maxRecDepth 20000 in
set_option maxHeartbeats 4000000 in
/-- The law on QuotientOf. -/
theorem law_QuotientOf (A : Option Addr) (len cap : Nat) (w : World) (hc : CodeIn w A len cap) :
    Calls Tryd.prog 13 #[.slice A len cap] w fun e w' => e = .returned (.bool true) ∧ Below w.heap.size w w' := by
  have hlc := hc.1
  have hcm := hc.2.1
  unfold maxLen at hcm
  by_cases hbig : 1048576 < len
  · go_enter Tryd.func13, Tryd.ntmps13
    go_wp2_with fail
    go_ret
    exact ⟨rfl, Below.refl _ _⟩
  have hbig' : len ≤ 1048576 := by omega
  clear hbig
  go_enter Tryd.func13, Tryd.ntmps13
  go_wp2_with fail
  refine (draw_Quotient A len cap _ hc).mono ?_
  rintro e w1 ⟨s, d, rfl, hs, hd0, hd1, b1⟩
  clear hc
  have hsm : s.size ≤ maxLen := by unfold maxLen; omega
  have CI := Lib.hid fun W => iQuotient s hsm d W
  have CS := Lib.hid fun W => sQuotient s hsm d W
  cases hok : quB s d with
  | false =>
    have H1 : quS s d = ⟨#[]⟩ := (rs_none hok).1
    have H2 : quR s d = -1 := (rs_none hok).2.1
    rw [H1, H2, hok] at CI CS
    clear H1 H2 hok
    go_wp2_with fail
    refine (CI.out _).mono ?_
    rintro e w2 ⟨rfl, b2⟩
    have hB2 := below_own b1 b2 b1.size
    clear b1 b2
    go_wp2_with fail
    refine (CS.out _).mono ?_
    rintro e w3 ⟨rfl, b3⟩
    have hB3 := below_own hB2 b3 hB2.size
    go_wp2_with (go_at_call 19; refine (alive_any _).mono ?_; rintro e w' ⟨rfl, rfl⟩)
    go_ret
    exact ⟨rfl, hB3⟩
  | true =>
    obtain ⟨h1, h2, v0, v1, e1, e2⟩ := qu_all hok
    have hsz1 : (quS s d).size ≤ maxLen := by
      have := plS_size (colL (dvF s.data.toList d) 2 (dvN s d))
      have e : quS s d = plS (colL (dvF s.data.toList d) 2 (dvN s d)) := (rs_yes hok).1
      rw [e]; unfold maxLen; omega
    have CV1 := Lib.hid fun W => value_any (quS s d) hsz1 W
    have CV2 := Lib.hid fun W => value_any s hsm W
    rw [hok] at CI CS
    rw [e1] at CV1
    rw [e2] at CI CS
    clear hok hsz1 e1 e2 hsm
    generalize valO s.data.toList = z at *
    generalize quS s d = q at *
    have hd : ¬ d = 0 := by omega
    have hq0 : 0 ≤ z / d := Int.ediv_nonneg v0 (by omega)
    have hq1 : z / d ≤ z := Int.ediv_le_self d v0
    have kq : z.tdiv d = z / d := Int.tdiv_eq_ediv_of_nonneg v0
    have kr : z.tmod d = z % d := Int.tmod_eq_emod_of_nonneg v0
    generalize HQ : z / d = y at *
    generalize HR : z % d = r at *
    have kw : IntKind.i64.wrap y = y := IntWalk.i64_in _ (by omega)
    have hd0' : (d == 0) = false := by simp; omega
    go_wp2_with fail
    refine (CI.out _).mono ?_
    rintro e w2 ⟨rfl, b2⟩
    have hB2 := below_own b1 b2 b1.size
    clear b1 b2
    go_wp2_with fail
    refine (CS.out _).mono ?_
    rintro e w3 ⟨rfl, b3⟩
    have hB3 := below_own hB2 b3 hB2.size
    clear hB2 b3
    go_wp2_with fail
    refine (CV2.out _).mono ?_
    rintro e w4 ⟨rfl, b4⟩
    have hB4 := below_own hB3 b4 hB3.size
    clear hB3 b4 CV2 CI CS
    go_wp2_with fail
    go_region_held3 (fun _ => True) (trivial)
      (first | (go_at_call 21; refine (CV1.out _).mono ?_; rintro e w5 ⟨rfl, b5⟩))
    go_wp2_with fail
    go_ret
    exact ⟨rfl, by first | exact below_own hB4 b5 hB4.size | exact below_own hB4.drew b5 hB4.size | exact (below_own hB4 b5 hB4.size).drew⟩
end Go.Proofs.YtcpkjlgebghkgaaDoor
