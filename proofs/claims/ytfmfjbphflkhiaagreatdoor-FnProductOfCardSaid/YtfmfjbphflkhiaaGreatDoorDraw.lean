/- The reader of a code: opened, and picked from. -/
import Derived.Test.YtfmfjbphflkhiaaGreatDoorBase
import Derived.Test.YtfmfjbphflkhiaaGreatDoorMem
import Derived.Test.YtfmfjbphflkhiaaGreatDoorInts
namespace Go.Proofs.YtfmfjbphflkhiaaGreatDoor
set_option linter.unusedVariables false
set_option linter.unusedSimpArgs false
open Go.RowKit

/-- The reader in block rb: some bytes below it, and how many picks were made. -/
def Rdr (w : World) (rb p : Nat) : Prop :=
  ∃ A n cap, ∃ f : Nat → Int, n ≤ 2000 ∧ w.heap[rb]? = some (.cells #[.slice A n cap, .int .i64 p] 53 (0, 0)) ∧ (∀ j, 0 ≤ f j ∧ f j ≤ 255) ∧
    (0 < n → ∃ b o, A = some ⟨b, o, none⟩ ∧ b < rb ∧ ∀ j, j < n → w.cell? ⟨b, o + j, none⟩ = some (.int .u8 (f j)))
theorem Rdr.lt {w : World} {rb p : Nat} (h : Rdr w rb p) : rb < w.heap.size := by
  obtain ⟨_, _, _, _, _, h, _⟩ := h
  exact (Array.getElem?_eq_some_iff.1 h).1
theorem Rdr.keep {w w' : World} {rb p : Nat} (h : Rdr w rb p) (hk : ∀ k, k ≤ rb → w'.heap[k]? = w.heap[k]?) : Rdr w' rb p := by
  obtain ⟨A, n, cap, f, h1, h2, h3, h4⟩ := h
  refine ⟨A, n, cap, f, h1, (hk rb (Nat.le_refl _)).trans h2, h3, fun hn => ?_⟩
  obtain ⟨b, o, rfl, hb, hc⟩ := h4 hn
  exact ⟨b, o, rfl, hb, fun j hj => (World.cell?_of_block (hk b (by omega))).trans (hc j hj)⟩
theorem Rdr.below {w w' : World} {rb p B : Nat} (h : Rdr w rb p) (hb : Below B w w') (hB : rb < B) : Rdr w' rb p := h.keep fun k hk => hb.block k (by omega)

set_option maxHeartbeats 1000000 in
theorem open_any (A : Option Addr) (len cap : Nat) (w : World) (hc : CodeIn w A len cap) :
    Calls Tryz.prog 16 #[.slice A len cap] w fun e w' => e = .returned (.pointer (some ⟨w.heap.size, 0, none⟩)) ∧ Rdr w' w.heap.size 0 ∧ Below w.heap.size w w' := by
  obtain ⟨h1, h2, f, hf, hr⟩ := hc
  unfold maxLen at h2
  by_cases hl : 2000 < len
  · obtain ⟨b, o, rfl, hb, hcell⟩ := hr (by omega)
    go_enter Tryz.func16, Tryz.ntmps16
    go_wp2
    go_ret
    refine ⟨rfl, ⟨_, 2000, _, f, Nat.le_refl _, heap_alloc_new w _, hf, fun _ => ⟨b, o, rfl, hb, fun j hj => ?_⟩⟩, (Below.refl _ _).alloc (Nat.le_refl _) _⟩
    rw [World.cell?_alloc_past _ _ _ hb]
    exact hcell j (by omega)
  · go_enter Tryz.func16, Tryz.ntmps16
    go_wp2
    go_ret
    refine ⟨rfl, ⟨_, len, _, f, by omega, heap_alloc_new w _, hf, fun hp => ?_⟩, (Below.refl _ _).alloc (Nat.le_refl _) _⟩
    obtain ⟨b, o, rfl, hb, hcell⟩ := hr hp
    refine ⟨b, o, rfl, hb, fun j hj => ?_⟩
    rw [World.cell?_alloc_past _ _ _ hb]
    exact hcell j hj

/-- What a pick leaves. -/
def Picked (n : Int) (rb p : Nat) (w : World) (e : Ending) (w' : World) : Prop := ∃ x : Int, e = .returned (.int .i64 x) ∧ (1 ≤ n → 0 ≤ x ∧ x < n) ∧ (n < 1 → x = 0) ∧ Rdr w' rb (p + 1) ∧ w.grownBy w' (some rb)

theorem ofInt_small (a : Nat) (ha : a < 9223372036854775808) : (BitVec.ofInt 64 (a : Int)).toNat = a := by
  rw [BitVec.ofInt_natCast, BitVec.toNat_ofNat]; exact Nat.mod_eq_of_lt (by omega)
theorem xor_range (a b : Int) (ha : 0 ≤ a) (ha1 : a ≤ 1000000000000) (hb : 0 ≤ b) (hb1 : b ≤ 1000000000000) : 0 ≤ bits .xor .i64 a b ∧ bits .xor .i64 a b ≤ 9000000000000000 := by
  obtain ⟨a, rfl⟩ := Int.eq_ofNat_of_zero_le ha
  obtain ⟨b, rfl⟩ := Int.eq_ofNat_of_zero_le hb
  have hx : a ^^^ b < 2 ^ 50 := Nat.xor_lt_two_pow (by omega) (by omega)
  show 0 ≤ IntKind.i64.wrap ((BitVec.ofInt 64 (a : Int) ^^^ BitVec.ofInt 64 (b : Int)).toNat : Int) ∧ IntKind.i64.wrap ((BitVec.ofInt 64 (a : Int) ^^^ BitVec.ofInt 64 (b : Int)).toNat : Int) ≤ 9000000000000000
  rw [BitVec.toNat_xor, ofInt_small a (by omega), ofInt_small b (by omega), IntKind.wrap_i64]
  omega

theorem set_p (w : World) (rb p : Nat) (v : Value) (h : w.heap[rb]? = some (.cells #[v, .int .i64 p] 53 (0, 0))) :
    (w.setCell ⟨rb, 1, none⟩ (.int .i64 ((p : Int) + 1))).heap[rb]? = some (.cells #[v, .int .i64 ((p + 1 : Nat) : Int)] 53 (0, 0)) := by
  simp [World.setCell, Array.getElem?_modify, h]

set_option maxHeartbeats 2000000 in
theorem pick_any (n : Int) (rb p : Nat) (w : World) (h : Rdr w rb p) (hp : p < 1000000000) :
    Calls Tryz.prog 34 #[.pointer (some ⟨rb, 0, none⟩), .int .i64 n] w (Picked n rb p w) := by
  obtain ⟨A, m, cap, f, hm, hb, hf, hr⟩ := h
  have c0 : w.cell? ⟨rb, 0, none⟩ = some (.slice A m cap) := by simp [World.cell?, hb]
  have c1 : w.cell? ⟨rb, 1, none⟩ = some (.int .i64 p) := by simp [World.cell?, hb]
  have z1 : w.frozen? ⟨rb, 1, none⟩ = false := by simp [World.frozen?, hb]
  have hset := set_p w rb p _ hb
  go_enter Tryz.func34, Tryz.ntmps34
  go_upto_region 2 with fail
  obtain ⟨w1, hw1⟩ : ∃ w1, w.setCell ⟨rb, 1, none⟩ (.int .i64 ((p : Int) + 1)) = w1 := ⟨_, rfl⟩
  have hg1 : w.grownBy w1 (some rb) := by rw [← hw1]; exact grown_set w ⟨rb, 1, none⟩ _
  have hrow : 0 < m → ∃ b o, A = some ⟨b, o, none⟩ ∧ b < rb ∧ ∀ j, j < m → w1.cell? ⟨b, o + j, none⟩ = some (.int .u8 (f j)) := fun hm0 => by
    obtain ⟨b, o, e, hbr, hc⟩ := hr hm0
    refine ⟨b, o, e, hbr, fun j hj => ?_⟩
    rw [← hw1, World.cell?_setCell_other w ⟨rb, 1, none⟩ ⟨b, o + j, none⟩ _ (fun e => by injection e with e _; omega)]
    exact hc j hj
  rw [hw1] at hset ⊢
  have d0 : w1.cell? ⟨rb, 0, none⟩ = some (.slice A m cap) := by simp [World.cell?, hset]
  have d1 : w1.cell? ⟨rb, 1, none⟩ = some (.int .i64 ((p : Int) + 1)) := by simp [World.cell?, hset]
  have hrdr : Rdr w1 rb (p + 1) := ⟨A, m, cap, f, hm, hset, hf, hrow⟩
  clear hw1 c0 c1 z1 hb hr hset
  by_cases hn : n < 1
  · go_wp2
    go_ret
    exact ⟨0, rfl, fun h => by omega, fun _ => rfl, hrdr, hg1⟩
  have hn1 : 1 ≤ n := by omega
  by_cases hm0 : m = 0
  · subst hm0
    go_wp2
    go_ret
    exact ⟨0, rfl, fun h => by omega, fun _ => rfl, hrdr, hg1⟩
  have hmp : 0 < m := by omega
  obtain ⟨b, o, rfl, hbr, hc⟩ := hrow hmp
  have hmne : ((m : Int) == 0) = false := by simp; omega
  clear hrow
  by_cases hpm : p < m
  · have e1 := hc p hpm
    have f1 := hf p
    obtain ⟨f10, f11⟩ := f1
    clear hc hn hm0
    go_wp2
    go_ret
    exact ⟨f p % n, rfl, fun _ => ⟨Int.emod_nonneg _ (by omega), Int.emod_lt_of_pos _ (by omega)⟩, fun h => by omega, hrdr, hg1⟩
  · have hpm' : m ≤ p := by omega
    have e1 := hc (p % m) (Nat.mod_lt _ hmp)
    have e2 := hc ((p * 7 + 3) % m) (Nat.mod_lt _ hmp)
    clear hc hn hpm
    have f1 := hf (p % m)
    have f2 := hf ((p * 7 + 3) % m)
    generalize f (p % m) = x1 at *
    generalize f ((p * 7 + 3) % m) = x2 at *
    obtain ⟨f10, f11⟩ := f1
    obtain ⟨f20, f21⟩ := f2
    have hq0 : p / m ≤ p := Nat.div_le_self _ _
    have i1 : p % m < m := Nat.mod_lt _ hmp
    have i2 : (p * 7 + 3) % m < m := Nat.mod_lt _ hmp
    go_upto_region 7 with fail
    have k1 : (p : Int).tmod (m : Int) = ((p % m : Nat) : Int) := (Int.natCast_emod p m ▸ Int.tmod_eq_emod_of_nonneg (by omega))
    generalize p % m = r1 at k1 i1 e1
    have k2 : IntKind.i64.wrap ((p : Int) * 7) = (p : Int) * 7 := IntWalk.i64_in _ (by omega)
    have k3 : IntKind.i64.wrap ((p : Int) * 7 + 3) = (p : Int) * 7 + 3 := IntWalk.i64_in _ (by omega)
    have k4 : ((p : Int) * 7 + 3).tmod (m : Int) = (((p * 7 + 3) % m : Nat) : Int) := by
      rw [Int.tmod_eq_emod_of_nonneg (by omega)]; push_cast; rfl
    generalize (p * 7 + 3) % m = r2 at k4 i2 e2
    have k5 : (p : Int).tdiv (m : Int) = ((p / m : Nat) : Int) := by rw [Int.tdiv_eq_ediv_of_nonneg (by omega)]; push_cast; rfl
    generalize p / m = q at k5 hq0
    have k6 : IntKind.i64.wrap (x1 * 131) = x1 * 131 := IntWalk.i64_in _ (by omega)
    have k7 : IntKind.i64.wrap (x2 * 1117) = x2 * 1117 := IntWalk.i64_in _ (by omega)
    have k8 : IntKind.i64.wrap (x1 * 131 + x2 * 1117) = x1 * 131 + x2 * 1117 := IntWalk.i64_in _ (by omega)
    have k9 : IntKind.i64.wrap ((p : Int) * 29) = (p : Int) * 29 := IntWalk.i64_in _ (by omega)
    have k10 : IntKind.i64.wrap (x1 * 131 + x2 * 1117 + (p : Int) * 29) = x1 * 131 + x2 * 1117 + (p : Int) * 29 := IntWalk.i64_in _ (by omega)
    have k11 : IntKind.i64.wrap ((q : Int) * 53) = (q : Int) * 53 := IntWalk.i64_in _ (by omega)
    have k12 : IntKind.i64.wrap (x1 * 131 + x2 * 1117 + (p : Int) * 29 + (q : Int) * 53) = x1 * 131 + x2 * 1117 + (p : Int) * 29 + (q : Int) * 53 := IntWalk.i64_in _ (by omega)
    go_quiet (fail)
    have hX0 : 0 ≤ x1 * 131 + x2 * 1117 + (p : Int) * 29 + (q : Int) * 53 := by omega
    have hX1 : x1 * 131 + x2 * 1117 + (p : Int) * 29 + (q : Int) * 53 ≤ 1000000000000 := by omega
    generalize x1 * 131 + x2 * 1117 + (p : Int) * 29 + (q : Int) * 53 = X at hX0 hX1 ⊢
    clear k1 k2 k3 k4 k5 k6 k7 k8 k9 k10 k11 k12
    have hx := xor_range X (X / 64) hX0 (by omega) (by omega) (by omega)
    obtain ⟨hx0, hx1⟩ := hx
    go_wp2
    go_ret
    exact ⟨_, rfl, fun _ => ⟨Int.emod_nonneg _ (by omega), Int.emod_lt_of_pos _ (by omega)⟩, fun h => by omega, hrdr.keep fun k _ => rfl, ⟨hg1.os, hg1.tape, hg1.output, hg1.size, hg1.block⟩⟩

end Go.Proofs.YtfmfjbphflkhiaaGreatDoor
