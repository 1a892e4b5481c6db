/- The walks of the reference's DigitSum, NineOf and ElevenOf. -/
import Derived.Test.YtfmfjbphflkhiaaDoorNe
import Derived.Test.YtfmfjbphflkhiaaDoorDrw
import Derived.Test.YtfmfjbphflkhiaaDoorDgt
import Derived.Deep.RegionLaw
namespace Go.Proofs.YtfmfjbphflkhiaaDoor
set_option linter.unusedVariables false
set_option linter.unusedSimpArgs false
open Go.RowKit

theorem smV_congr {f g : Nat → Int} : ∀ {n : Nat}, (∀ k, k < n → f k = g k) → smV f n = smV g n := by
  intro n
  induction n with
  | zero => intro _; rfl
  | succ n ih =>
    intro h
    show smV f n + f n = smV g n + g n
    rw [ih fun k hk => h k (by omega), h n (by omega)]
theorem smV_front (g : Nat → Int) (n : Nat) : smV g (n + 1) = g 0 + smV (fun k => g (k + 1)) n := by
  induction n with
  | zero => show (0 : Int) + g 0 = g 0 + 0; omega
  | succ n ih =>
    show smV g (n + 1) + g (n + 1) = g 0 + (smV (fun k => g (k + 1)) n + g (n + 1))
    rw [ih]; omega
theorem smV_rev (g : Nat → Int) (n : Nat) : smV (fun k => g (n - 1 - k)) n = smV g n := by
  induction n with
  | zero => rfl
  | succ n ih =>
    rw [smV_front]
    show g (n + 1 - 1 - 0) + smV (fun k => g (n + 1 - 1 - (k + 1))) n = smV g n + g n
    rw [← ih, smV_congr (f := fun k => g (n + 1 - 1 - (k + 1))) (g := fun k => g (n - 1 - k)) fun k _ => by rw [show n + 1 - 1 - (k + 1) = n - 1 - k by omega], show n + 1 - 1 - 0 = n by omega]
    omega
/-- The digit that stands at a byte. -/
def bt (l : List UInt8) (k : Nat) : Int := dg l (l.length - 1 - k)
theorem bt_at (s : ByteArray) (k : Nat) (h : k < s.size) : bt s.data.toList k = (s[k].toNat : Int) - 48 := by
  unfold bt dg
  rw [str_len, if_pos (by omega), show s.size - 1 - (s.size - 1 - k) = k by omega, str_at s k h]
theorem bt_sum (l : List UInt8) : smV (bt l) l.length = smV (dg l) l.length := smV_rev (dg l) l.length
/-- The text of a number of one or two digits. -/
def nStr (n : Nat) : ByteArray := dStr (n / 10) ++ dStr (n % 10)
theorem nStr_list (n : Nat) : (nStr n).data.toList = [UInt8.ofNat (48 + n / 10), UInt8.ofNat (48 + n % 10)] := by
  show (bStr [_] ++ bStr [_]).data.toList = _
  rw [← bStr_append, bStr_list]; rfl
theorem nStr_sum (n : Nat) (h : 10 ≤ n) (h' : n ≤ 99) : sumI (nStr n).data.toList = ((n / 10 + n % 10 : Nat) : Int) := by
  have key : ∀ k : Fin 90, sumI [UInt8.ofNat (48 + (k.val + 10) / 10), UInt8.ofNat (48 + (k.val + 10) % 10)] = (((k.val + 10) / 10 + (k.val + 10) % 10 : Nat) : Int) := by decide +kernel
  have := key ⟨n - 10, by omega⟩
  rw [nStr_list]
  simp only [show n - 10 + 10 = n by omega] at this
  exact this
theorem nStr_size (n : Nat) : (nStr n).size = 2 := rfl
theorem conv_in (w : World) (B d : Nat) (hd : d ≤ 9) (h : w.cell? ⟨B, 0, none⟩ = some (.int .u8 (48 + (d : Int)))) : (convert 22 9 (.slice (some ⟨B, 0, none⟩) 1 1)).run Tryd.prog w = .ok (.string (dStr d)) w := by
  refine run_convert_bytes_back _ _ _ 5 ⟨B, 0, none⟩ 1 [UInt8.ofNat (48 + d)] Tryd.underlying22 Tryd.underlying5 Tryd.underlying9 ?_
  intro j hj
  have hj0 : j = 0 := by simpa using hj
  subst hj0
  rw [Go.WideShapes.add_plain, h]
  have : (UInt8.ofNat (48 + d)).toNat = 48 + d := by rw [UInt8.toNat_ofNat']; omega
  simp
  omega
set_option maxRecDepth 20000 in
set_option maxHeartbeats 1000000 in
theorem num2 (n : Nat) (w : World) (h : 10 ≤ n) (h' : n ≤ 99) : Calls Tryd.prog 35 #[.int .i64 n] w fun e w' => e = .returned (.string (nStr n)) ∧ Below w.heap.size w w' := by
  have HE : Hid (nStr n = dStr (n / 10) ++ dStr (n % 10)) := Lib.hid rfl
  have eq : (n : Int).tdiv 10 = ((n / 10 : Nat) : Int) := by rw [Int.tdiv_eq_ediv_of_nonneg (by omega)]; omega
  have er : (n : Int).tmod 10 = ((n % 10 : Nat) : Int) := by rw [Int.tmod_eq_emod_of_nonneg (by omega)]; omega
  have ha : n / 10 ≤ 9 := by omega
  have hb : n % 10 ≤ 9 := by omega
  have HA := Lib.hid fun W => numDig ((n / 10 : Nat) : Int) W (by omega) (by omega)
  rw [Int.toNat_natCast] at HA
  have hni : ¬ (n : Int) < 10 := by omega
  generalize n / 10 = a at *
  generalize n % 10 = b at *
  have HC := Lib.hid fun W B h => conv_in W B b hb h
  have wa : IntKind.i64.wrap (a : Int) = (a : Int) := by rw [IntKind.wrap_i64]; omega
  have wb : IntKind.i64.wrap (b : Int) = (b : Int) := by rw [IntKind.wrap_i64]; omega
  have wc : IntKind.i64.wrap (48 + (b : Int)) = 48 + (b : Int) := by rw [IntKind.wrap_i64]; omega
  have wu : IntKind.u8.wrap (48 + (b : Int)) = 48 + (b : Int) := by show (48 + (b : Int)) % 256 = _; omega
  have hsz : ¬ 9223372036854775807 < (dStr a).size + (dStr b).size := by rw [dStr_size, dStr_size]; decide
  have h0 := conv_dig w b hb 5 (0, 0)
  have hce : (w.alloc (.cells #[.int .u8 (48 + (b : Int))] 5)).cell? ⟨w.heap.size, 0, none⟩ = some (.int .u8 (48 + (b : Int))) := World.cell?_alloc_mark w _ _ _ 0
  have h3 := HC.out (w.alloc (.cells #[.int .u8 (48 + (b : Int))] 5)).drew w.heap.size hce
  have HQ := Lib.hid fun w1 (b1 : Below (w.alloc (.cells #[.int .u8 (48 + (b : Int))] 5)).heap.size (w.alloc (.cells #[.int .u8 (48 + (b : Int))] 5)) w1) => HC.out w1 w.heap.size ((b1.cell (p := ⟨w.heap.size, 0, none⟩) (by simp)).trans hce)
  have HQd := Lib.hid fun w1 (b1 : Below (w.alloc (.cells #[.int .u8 (48 + (b : Int))] 5)).drew.heap.size (w.alloc (.cells #[.int .u8 (48 + (b : Int))] 5)).drew w1) => HC.out w1 w.heap.size ((b1.cell (p := ⟨w.heap.size, 0, none⟩) (by simp)).trans hce)
  go_enter Tryd.func35, Tryd.ntmps35
  go_wp2_with fail
  go_region_law (first | (go_simp; go_at_call 35; refine (HA.out _).mono ?_; rintro e w1 ⟨rfl, b1⟩; have h2 := conv_dig w1 b hb 5 (0, 0); (first | have hcv := HQ.out w1 b1 | have hcv := HQd.out w1 b1 | skip)))
  all_goals go_wp2_with fail
  all_goals go_ret
  all_goals (have hfin : Below w.heap.size w w1 := (by first | exact below_own (Below.refl w.heap.size w) b1 (Nat.le_refl _) | exact below_own (Below.refl w.heap.size w).drew b1 (Nat.le_refl _) | exact below_own ((Below.refl w.heap.size w).alloc (Nat.le_refl _) _) b1 (by simp) | exact below_own ((Below.refl w.heap.size w).alloc (Nat.le_refl _) _).drew b1 (by simp)))
  all_goals (first | exact ⟨by rw [HE.out]; rfl, hfin⟩ | exact ⟨by rw [HE.out]; rfl, hfin.drew⟩ | exact ⟨by rw [HE.out]; rfl, hfin.alloc hfin.size _⟩)

set_option maxRecDepth 20000 in
set_option maxHeartbeats 1000000 in
theorem sDigitSum (s : ByteArray) (hs : s.size ≤ maxLen) (w : World) : Calls Tryd.prog 73 #[.string s] w fun e w' => e = .returned (.int .i64 (sumI s.data.toList)) ∧ w = w' := by
  have HN := Lib.hid fun W => sNum s hs W
  cases hn : numB s.data.toList with
  | false =>
    have HX : Hid (sumI s.data.toList = -1) := Lib.hid (by unfold sumI; rw [hn]; rfl)
    rw [hn] at HN
    clear hn hs
    go_enter Tryd.func73, Tryd.ntmps73
    go_wp2_with fail
    refine (HN.out _).mono ?_
    rintro e w' ⟨rfl, rfl⟩
    go_wp2_with fail
    go_ret
    exact ⟨by rw [HX.out]; rfl, rfl⟩
  | true =>
    have HX : Hid (sumI s.data.toList = smV (bt s.data.toList) s.size) := Lib.hid (by unfold sumI; rw [if_pos hn, ← bt_sum, str_len])
    have HA := Lib.hid fun k (h : k < s.size) => numB_all hn _ (str_mem s k h)
    have HE := Lib.hid fun k (h : k < s.size) => bt_at s k h
    have HSr := Lib.hid fun k => smV_range (g := bt s.data.toList) (fun k => dg_range (numB_all hn) _) k
    have hl := (numB_len hn).2
    rw [str_len] at hl
    rw [hn] at HN
    clear hn hs
    generalize bt s.data.toList = g at *
    go_enter Tryd.func73, Tryd.ntmps73
    go_wp2_with fail
    refine (HN.out _).mono ?_
    rintro e w' ⟨rfl, rfl⟩
    go_wp2_with fail
    go_loopg [3, 4] s.size (fun gk s3 s4 wr => ∃ k : Nat, ∃ y : Int, gk + k = s.size ∧ s4 = .int .i64 k ∧ s3 = .int .i64 y ∧ Hid (y = smV g k) ∧ w = wr)
    case atStart => exact ⟨0, 0, rfl, rfl, rfl, Lib.hid rfl, rfl⟩
    case round =>
      obtain ⟨k, y, hk, rfl, rfl, HY, rfl⟩ := hrel
      by_cases hlt : k < s.size
      · have hy := HSr.out k
        rw [← HY.out] at hy
        obtain ⟨ha0, ha1⟩ := HA.out k hlt
        have HSt : Hid (smV g (k + 1) = y + ((s[k].toNat : Int) - 48)) := Lib.hid (by rw [HY.out, ← HE.out k hlt]; rfl)
        have hki : (k : Int) < (s.size : Int) := by omega
        go_wp2_with fail
        go_roundg (gk - 1)
        case measure => omega
        case rel => exact ⟨k + 1, y + ((s[k].toNat : Int) - 48), by omega, by go_num, by go_num, Lib.hid HSt.out.symm, rfl⟩
      · obtain rfl : k = s.size := by omega
        go_wp2_with fail
        go_ret
        exact ⟨by rw [HX.out, ← HY.out]; rfl, rfl⟩

set_option maxRecDepth 20000 in
set_option maxHeartbeats 1000000 in
theorem sNineOf (s : ByteArray) (hs : s.size ≤ maxLen) (w : World) : Calls Tryd.prog 54 #[.string s] w fun e w' => e = .returned (.int .i64 (ninI s.data.toList)) ∧ Below w.heap.size w w' := by
  have HD := Lib.hid fun W => sDigitSum s hs W
  have HM := Lib.hid fun (m : Nat) (h : 10 ≤ m) (h' : m ≤ 99) W => num2 m W h h'
  have HL := Lib.hid fun (m : Nat) (h : 10 ≤ m) (h' : m ≤ 99) W => by
    have := sDigitSum (nStr m) (by rw [nStr_size]; unfold maxLen; omega) W
    rwa [nStr_sum m h h'] at this
  cases hn : numB s.data.toList with
  | false =>
    have HX : Hid (ninI s.data.toList = -1) := Lib.hid (by unfold ninI; rw [hn]; rfl)
    have hX : sumI s.data.toList = -1 := by unfold sumI; rw [hn]; rfl
    rw [hX] at HD
    clear hn hs hX
    go_enter Tryd.func54, Tryd.ntmps54
    go_wp2_with fail
    refine (HD.out _).mono ?_
    rintro e w' ⟨rfl, rfl⟩
    go_wp2_with fail
    go_loopg [3] 0 (fun g s3 wr => s3 = .int .i64 (-1) ∧ w = wr)
    case atStart => exact ⟨rfl, rfl⟩
    case round =>
      obtain ⟨rfl, rfl⟩ := hrel
      go_wp2_with fail
      go_ret
      exact ⟨by rw [HX.out]; rfl, Below.refl _ _⟩
  | true =>
    have hsr := smV_range (g := dg s.data.toList) (fun k => dg_range (numB_all hn) k) s.size
    have hl := (numB_len hn).2
    rw [str_len] at hl
    have HX : Hid (ninI s.data.toList = smV (dg s.data.toList) s.size % 9) := Lib.hid (by unfold ninI; rw [if_pos hn, ← val9, str_len])
    have hX : sumI s.data.toList = smV (dg s.data.toList) s.size := by unfold sumI; rw [if_pos hn, str_len]
    rw [hX] at HD
    clear hn hs hX
    generalize smV (dg s.data.toList) s.size = y at *
    obtain ⟨y0, y1⟩ := hsr
    obtain ⟨n, rfl⟩ := Int.eq_ofNat_of_zero_le y0
    have hn81 : n ≤ 81 := by omega
    clear y0 y1
    go_enter Tryd.func54, Tryd.ntmps54
    go_wp2_with fail
    refine (HD.out _).mono ?_
    rintro e w' ⟨rfl, rfl⟩
    go_wp2_with fail
    go_loopg [3] n (fun g s3 wr => ∃ m : Nat, g = m ∧ s3 = .int .i64 m ∧ m ≤ 81 ∧ Hid ((m : Int) % 9 = (n : Int) % 9) ∧ Below w.heap.size w wr)
    case atStart => exact ⟨n, rfl, rfl, hn81, Lib.hid rfl, Below.refl _ _⟩
    case round =>
      obtain ⟨m, rfl, rfl, hm, HR, hB⟩ := hrel
      by_cases hlt : 9 < gk
      · have CM := Lib.hid (HM.out gk (by omega) (by omega))
        have CL := Lib.hid (HL.out gk (by omega) (by omega))
        have hlti : (9 : Int) < (gk : Int) := by omega
        generalize nStr gk = x at *
        go_wp2_with fail
        refine (CM.out _).mono ?_
        rintro e w2 ⟨rfl, b2⟩
        have hB2 := below_own hB b2 hB.size
        go_wp2_with fail
        refine (CL.out _).mono ?_
        rintro e w3 ⟨rfl, rfl⟩
        go_wp2_with fail
        go_roundg (gk / 10 + gk % 10)
        case measure => omega
        case rel => exact ⟨gk / 10 + gk % 10, rfl, rfl, by omega, Lib.hid (by rw [← HR.out]; omega), hB2⟩
      · have hlti : ¬ (9 : Int) < (gk : Int) := by omega
        by_cases h9 : gk = 9
        · subst h9
          go_wp2_with fail
          go_ret
          exact ⟨by rw [HX.out, ← HR.out]; rfl, hB⟩
        · have t9 : ((gk : Int) == 9) = false := beq_eq_false_iff_ne.2 (by omega)
          have HF : Hid (ninI s.data.toList = (gk : Int)) := Lib.hid (by rw [HX.out, ← HR.out]; omega)
          go_wp2_with fail
          go_ret
          exact ⟨by rw [HF.out]; rfl, hB⟩

set_option maxRecDepth 20000 in
set_option maxHeartbeats 2000000 in
theorem sElevenOf (s : ByteArray) (hs : s.size ≤ maxLen) (w : World) : Calls Tryd.prog 55 #[.string s] w fun e w' => e = .returned (.int .i64 (eleI s.data.toList)) ∧ w = w' := by
  have HN := Lib.hid fun W => sNum s hs W
  cases hn : numB s.data.toList with
  | false =>
    have HX : Hid (eleI s.data.toList = -1) := Lib.hid (by unfold eleI; rw [hn]; rfl)
    rw [hn] at HN
    clear hn hs
    go_enter Tryd.func55, Tryd.ntmps55
    go_wp2_with fail
    refine (HN.out _).mono ?_
    rintro e w' ⟨rfl, rfl⟩
    go_wp2_with fail
    go_ret
    exact ⟨by rw [HX.out]; rfl, rfl⟩
  | true =>
    have HX : Hid (eleI s.data.toList = alV (dg s.data.toList) s.size % 11) := Lib.hid (by unfold eleI; rw [if_pos hn, ← val11, str_len])
    have HD := Lib.hid fun k W => sDigit s hs hn k W
    have HR := Lib.hid fun k => dg_range (numB_all hn) k
    have HSr := Lib.hid fun k => alV_range (g := dg s.data.toList) (fun k => dg_range (numB_all hn) k) k
    have hl := (numB_len hn).2
    rw [str_len] at hl
    rw [hn] at HN
    clear hn hs
    go_enter Tryd.func55, Tryd.ntmps55
    go_wp2_with fail
    refine (HN.out _).mono ?_
    rintro e w' ⟨rfl, rfl⟩
    go_wp2_with fail
    go_loopg [3, 4] s.size (fun g s3 s4 wr => ∃ k : Nat, ∃ y : Int, g + k = s.size ∧ s4 = .int .i64 k ∧ s3 = .int .i64 y ∧ Hid (y = alV (dg s.data.toList) k) ∧ w = wr)
    case atStart => exact ⟨0, 0, rfl, rfl, rfl, Lib.hid rfl, rfl⟩
    case round =>
      obtain ⟨k, y, hk, rfl, rfl, HY, rfl⟩ := hrel
      have hy := HSr.out k
      rw [← HY.out] at hy
      by_cases hlt : k < s.size
      · have hd := HR.out k
        have HSt : Hid (alV (dg s.data.toList) (k + 1) = if k % 2 = 0 then y + dg s.data.toList k else y - dg s.data.toList k) := Lib.hid (by rw [HY.out]; rfl)
        have hki : (k : Int) < (s.size : Int) := by omega
        have HDk := Lib.hid (HD.out k w)
        generalize dg s.data.toList k = d at *
        by_cases h2 : k % 2 = 0
        · have t2 : ((k : Int) % 2 == 0) = true := by rw [beq_iff_eq]; omega
          have HS2 : Hid (alV (dg s.data.toList) (k + 1) = y + d) := Lib.hid (by rw [HSt.out, if_pos h2])
          clear h2 HSt
          go_wp2_with fail
          refine HDk.out.mono ?_
          rintro e w' ⟨rfl, rfl⟩
          go_wp2_with fail
          go_roundg (gk - 1)
          case measure => omega
          case rel => exact ⟨k + 1, y + d, by omega, by go_num, by go_num, Lib.hid HS2.out.symm, rfl⟩
        · have t2 : ((k : Int) % 2 == 0) = false := by rw [beq_eq_false_iff_ne]; omega
          have HS2 : Hid (alV (dg s.data.toList) (k + 1) = y - d) := Lib.hid (by rw [HSt.out, if_neg h2])
          clear h2 HSt
          go_wp2_with fail
          refine HDk.out.mono ?_
          rintro e w' ⟨rfl, rfl⟩
          go_wp2_with fail
          go_roundg (gk - 1)
          case measure => omega
          case rel => exact ⟨k + 1, y - d, by omega, by go_num, by go_num, Lib.hid HS2.out.symm, rfl⟩
      · obtain rfl : k = s.size := by omega
        have HZ : Hid (eleI s.data.toList = y % 11) := Lib.hid (by rw [HX.out, HY.out])
        have hy81 : -81 ≤ y ∧ y ≤ 81 := by omega
        clear hy HX HY HSr HR HD
        obtain ⟨y0, y1⟩ := hy81
        go_wp2_with fail
        go_loopg [3] (-y).toNat (fun g s3 wr => ∃ z : Int, s3 = .int .i64 z ∧ g = (-z).toNat ∧ -81 ≤ z ∧ z ≤ 81 ∧ Hid (z % 11 = y % 11) ∧ w = wr)
        case atStart => exact ⟨y, rfl, rfl, by omega, by omega, Lib.hid rfl, rfl⟩
        case round =>
          obtain ⟨z, rfl, hg, z0, z1, HR, rfl⟩ := hrel
          by_cases hz : z < 0
          · go_wp2_with fail
            go_roundg (-(z + 11)).toNat
            case measure => omega
            case rel => exact ⟨z + 11, by go_num, rfl, by omega, by omega, Lib.hid (by rw [← HR.out]; omega), rfl⟩
          · clear hg z0
            go_wp2_with fail
            go_loopg [3] z.toNat (fun g s3 wr => ∃ u : Int, s3 = .int .i64 u ∧ g = u.toNat ∧ 0 ≤ u ∧ u ≤ 81 ∧ Hid (u % 11 = y % 11) ∧ w = wr)
            case atStart => exact ⟨z, rfl, rfl, by omega, by omega, Lib.hid HR.out, rfl⟩
            case round =>
              obtain ⟨u, rfl, hg, u0, u1, HU, rfl⟩ := hrel
              by_cases hu : 10 < u
              · go_wp2_with fail
                go_roundg (u - 11).toNat
                case measure => omega
                case rel => exact ⟨u - 11, by go_num, rfl, by omega, by omega, Lib.hid (by rw [← HU.out]; omega), rfl⟩
              · have HF : Hid (eleI s.data.toList = u) := Lib.hid (by rw [HZ.out, ← HU.out]; omega)
                go_wp2_with fail
                go_ret
                exact ⟨by rw [HF.out]; rfl, rfl⟩
end Go.Proofs.YtfmfjbphflkhiaaDoor
