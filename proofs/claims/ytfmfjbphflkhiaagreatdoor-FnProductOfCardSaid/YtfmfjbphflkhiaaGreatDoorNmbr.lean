/- The walk of numbers at written. -/
import Derived.Test.YtfmfjbphflkhiaaGreatDoorBwd
import Derived.Test.YtfmfjbphflkhiaaGreatDoorPlain
import Derived.Deep.DeepCutAuto
import Derived.BigRegion
import Derived.RegionTactic
import Derived.OwnWalkIn
namespace Go.Proofs.YtfmfjbphflkhiaaGreatDoor
set_option linter.unusedVariables false
set_option linter.unusedSimpArgs false
open Go.RowKit Go.Shelf
theorem infoIntT : (Tryz.prog.info? 3).map (fun i => (i.zero, i.size, i.bytes)) = some (some (.int .i64 0), 1, 8) := by kernel_rfl

attribute [local go_sem] Oper.semAt_some

/-- A block of a column. -/
def ColAt (W : World) (b : Nat) (F : Nat → Nat → Int) (x : Nat) : Prop := W.heap[b]? = some (.cells #[.int .i64 (F x 0), .int .i64 (F x 1), .int .i64 (F x 2), .int .i64 (F x 3), .int .i64 (F x 4)] 58 (0, 0))
theorem ColAt.cell {W : World} {b : Nat} {F : Nat → Nat → Int} {x : Nat} (h : ColAt W b F x) : W.cell? ⟨b, 0, none⟩ = some (.int .i64 (F x 0)) ∧ W.cell? ⟨b, 1, none⟩ = some (.int .i64 (F x 1)) ∧ W.cell? ⟨b, 2, none⟩ = some (.int .i64 (F x 2)) ∧ W.cell? ⟨b, 3, none⟩ = some (.int .i64 (F x 3)) ∧ W.cell? ⟨b, 4, none⟩ = some (.int .i64 (F x 4)) := by
  have h' : W.heap[b]? = _ := h
  refine ⟨?_, ?_, ?_, ?_, ?_⟩ <;> simp [World.cell?, h']
theorem ColAt.own (B b : Nat) (F : Nat → Nat → Int) (x : Nat) {X Y : World} {row : Option Nat} (hs : ColAt X b F x) (hg : X.grownBy Y row) (hr : ∀ r, row = some r → B ≤ r ∧ ∃ o : Obj, X.heap[r]? = some o ∧ o.isCells = false) : ColAt Y b F x := by
  refine (hg.block b (Array.getElem?_eq_some_iff.1 hs).1 (fun e => ?_)).trans hs
  obtain ⟨_, o, ho, hc⟩ := hr b e.symm
  rw [show X.heap[b]? = _ from hs] at ho
  cases ho
  cases hc
/-- An append to a row of the call's own, one operation of a region inside a fence. -/
theorem opIn_append {F : Fence} {n : Nat} {P : Program} {w : World} {ops : Array Oper} {o : Oper} {a : Act} {K : Act → World → Prop} {Q : Exit → Act → World → Prop} {E : Prop}
    (hg : o.guard = none) (s x : Operand) (t : TypeId) (hop : o.op = Op.call { callee := Callee.builtin Builtin.append, args := #[s, x], argTypes := #[t, t] })
    (base : Nat) (e : TypeId) (i : TypeInfo) (z : Value) (size bytes : Nat) (h1 : P.underlying t = some (.slice e)) (h2 : P.info? e = some i) (h3 : i.zero = some z) (h4 : i.size = size) (h5 : i.bytes = bytes) (h6 : z.cells.size = size) (h7 : 0 < size)
    (v : Value) (k : Nat) (xs : List Value) (hs : a.eval s = v) (hown : w.ownsRow base e size v k xs) (ad : Addr) (m c : Nat) (news : List Value) (hx : a.eval x = .slice (some ad) m c) (hn : news.length = m * size)
    (hc : ∀ j u, news[j]? = some u → w.cell? (ad.add j) = some u) (h1c : ∀ u ∈ news, u.oneCell' = true) (b1 : k + m ≤ maxLen) (b2 : (k + m) * bytes ≤ 140737488355328) (b3 : base ≤ w.heap.size)
    (hK : ∀ v' w', w'.ownsRow base e size v' (k + m) (xs ++ news) → w.grownBy w' v.ownBlock → K (a.put o.dst v') w') :
    if Region.wanted o (yielded ops a.tmps) = true then Oper.wpIn F n P o a w K Q else E := by
  have hw : Region.wanted o (yielded ops a.tmps) = true := by simp [Region.wanted, hg]
  rw [if_pos hw]
  obtain ⟨v', w', hrun, r1, r2, r3⟩ := run_append_own (P := P) w base t o.type e i z size bytes h1 h2 h3 h4 h5 h6 h7 v k xs hown ad m c news hn hc h1c b1 b2 b3
  unfold Oper.wpIn
  refine ⟨?_, ?_⟩
  · simp [Oper.about, hop, resolve, Target.leads, Sem.run_pure]
  · rw [Oper.semAt_plain F _ _ (by rw [hop]; intro c hc'; cases hc')]
    simp [execOp, hop, resolve, invoke, builtin, hs, hx, hrun, Result.andThen]
    exact hK v' w' r1 r2

theorem ready_id {F : Fence} {n : Nat} {P : Program} {md : Region.Mode} {ops : Array Oper} {Q : Exit → Act → World → Prop} {fuel : Nat} {listed : Array Bool} {a : Act} {w : World} {rs : List Nat} (h : AllReadyIn F n P md ops Q fuel listed a w rs) : AllReadyIn F n P md ops Q fuel listed a w rs := h
theorem any_id {F : Fence} {n : Nat} {P : Program} {md : Region.Mode} {ops : Array Oper} {Q : Exit → Act → World → Prop} {fuel : Nat} {listed : Array Bool} {a : Act} {w : World} (h : wpAnyIn F n P md ops Q fuel listed a w) : wpAnyIn F n P md ops Q fuel listed a w := h
theorem if_id {c : Bool} {A B : Prop} (h : if c = true then A else B) : if c = true then A else B := h

set_option maxRecDepth 100000 in
set_option maxHeartbeats 4000000 in
theorem numbers_in (m : Nat) (hm : 6 ≤ m) (len cap : Nat) (A : Option Addr) (F : Nat → Nat → Int) (hlen : len ≤ 9) (w : World) (hR : Recs w w.heap.size (.slice A len cap) len 5 (IV F)) :
    CallsIn Fence.wide m Tryz.prog 54 #[.slice A len cap, .func (.func 55) #[] #[]] w fun e W' => ∃ v, e = .returned v ∧ W'.ownsRow w.heap.size 3 1 v len ((upI len len).map fun x => Value.int .i64 (F x 3)) ∧ Below w.heap.size w W' := by
  have h1 : 1 ≤ m := by omega
  obtain ⟨i0, hi, hz0, hz1, hz2⟩ := info_parts infoIntT
  refine callsIn_of_wp_marks Tryz.func54 rfl trivial ?_ rfl
  simp only [Tryz.ntmps54, List.size_toArray, List.length_cons, List.length_nil, Nat.reduceAdd, Nat.reduceSub, Array.replicate_succ, Array.replicate_zero, List.push_toArray, List.append_toArray, List.nil_append, List.cons_append]
  gi_wp2_with (refine ⟨trivial, ?_⟩; gi_at_call 73; refine (bwd_in (m - 1) _ _ _ _).mono ?_; rintro e w' ⟨rfl, rfl⟩)
  have bF := ((Boxed.new w 69 (.func (.func 55) #[] #[])).alloc (.cells #[.slice none 0 0] 64)).alloc (.cells #[.slice A len cap] 40)
  have bO := (Boxed.new (w.alloc (.cells #[.func (.func 55) #[] #[]] 69)) 64 (.slice none 0 0)).alloc (.cells #[.slice A len cap] 40)
  have bL := Boxed.new ((w.alloc (.cells #[.func (.func 55) #[] #[]] 69)).alloc (.cells #[.slice none 0 0] 64)) 40 (.slice A len cap)
  simp only [World.size_alloc] at bO bL
  have hB0 : Below w.heap.size w (((w.alloc (.cells #[.func (.func 55) #[] #[]] 69)).alloc (.cells #[.slice none 0 0] 64)).alloc (.cells #[.slice A len cap] 40)) := (((Below.refl _ w).alloc (Nat.le_refl _) _).alloc (by simp) _).alloc (by simp; omega) _
  have hsz : (((w.alloc (.cells #[.func (.func 55) #[] #[]] 69)).alloc (.cells #[.slice none 0 0] 64)).alloc (.cells #[.slice A len cap] 40)).heap.size = w.heap.size + 3 := by simp
  obtain ⟨W0, hW0⟩ : ∃ W0, ((w.alloc (.cells #[.func (.func 55) #[] #[]] 69)).alloc (.cells #[.slice none 0 0] 64)).alloc (.cells #[.slice A len cap] 40) = W0 := ⟨_, rfl⟩
  rw [hW0] at bF bO bL hB0 hsz ⊢
  clear hW0
  have hR0 := hR.below hB0 (Nat.le_refl _)
  refine wpIn_rangeFunc_ownH rfl h1 (gf := 89) (lb := #[.pointer (some ⟨w.heap.size + 1 + 1, 0, none⟩)]) rfl trivial (enters_of Tryz.func89 (by kernel_rfl) rfl)
    (bwd_stops (m - 1) (by omega) (w.heap.size + 1 + 1) w.heap.size len cap A F (by omega) W0 bL (by omega) hR0) (fun h h' => KpB.trans h h') (fun W l o o' hl ho hc hwk => ⟨belowK_b (by omega) W l o o' hl ho hc hwk, (World.putObj_heap_other (by omega))⟩) (Below.refl _ _) (fun _ => rfl)
    (fun pre W => ((∃ v, Boxed W (w.heap.size + 1) 64 v ∧ W.ownsRow w.heap.size 3 1 v pre.length (pre.map fun x => Value.int .i64 (F x 3)) ∧ True) ∧ (Boxed W w.heap.size 69 (.func (.func 55) #[] #[]) ∧ Boxed W (w.heap.size + 1 + 1) 40 (.slice A len cap))) ∧ Below w.heap.size w W)
    (fun _ _ _ => False)
    (OwnFrom.and (OwnFrom.and (Own.from (holdsRow_own w.heap.size (w.heap.size + 1) 64 3 1 (fun pre : List Nat => pre.length) (fun pre : List Nat => pre.map fun x => Value.int .i64 (F x 3)) (fun _ _ => True)) _) (OwnFrom.and (Own.from (boxed_own w.heap.size 69 (fun _ => .func (.func 55) #[] #[])) _) (Own.from (boxed_own (w.heap.size + 1 + 1) 40 (fun _ => .slice A len cap)) _))) (ownFrom_below (Nat.le_refl _) (by omega)))
    (fun _ _ _ _ _ hs _ _ => hs)
    ⟨⟨⟨_, bO, World.ownsRow_nil _ _ _ _, trivial⟩, bF, bL⟩, hB0⟩
    (fun x a' W => ∃ Bx, w.heap.size + 1 + 1 < Bx ∧ ColAt W Bx F x ∧ a' = { tmps := #[.slice A len cap, .func (.func 55) #[] #[], undef, .pointer (some ⟨w.heap.size, 0, none⟩), .slice none 0 0, .pointer (some ⟨w.heap.size + 1, 0, none⟩), undef, .pointer (some ⟨Bx, 0, none⟩), .slice A len cap, .func (.func 89) #[] #[.pointer (some ⟨w.heap.size + 1 + 1, 0, none⟩)], .int .i64 (x : Int), .agg #[.int .i64 (F x 0), .int .i64 (F x 1), .int .i64 (F x 2), .int .i64 (F x 3), .int .i64 (F x 4)], undef, undef, undef, undef, undef, undef, undef], defers := [] })
    (fun x a' _ X Y row hs hg hr => by obtain ⟨Bx, h1, h2, h3⟩ := hs; exact ⟨Bx, h1, ColAt.own _ Bx F x h2 hg hr, h3⟩) ?assign ?body ?done ?stop
  case assign =>
    rintro l pre x W K ⟨⟨⟨v, hv, hrow, _⟩, bF', bL'⟩, hB⟩ hK
    dsimp only [encC]
    gi_wp2
    have hsW := hB.size
    have hlt := bL'.lt
    exact hK _ _ ((KeepsOthers.alloc _ _).from _) ⟨(Below.refl w.heap.size W).alloc hsW _, (heap_alloc_old W _ hlt)⟩ ⟨⟨⟨v, hv.alloc _, hrow.alloc _, trivial⟩, bF'.alloc _, bL'.alloc _⟩, hB.alloc hsW _⟩ ⟨W.heap.size, hlt, World.alloc_heap_new W _, rfl⟩
  case body =>
    rintro l pre x a' W hl ⟨r, hr⟩ ⟨⟨⟨v, hv, hrow, _⟩, bF', bL'⟩, hB⟩ ⟨Bx, hBx, hcol, rfl⟩ hlt
    obtain ⟨g0, g1, g2, g3, g4⟩ := hcol.cell
    have hc0 := hv.cell
    have hcf := bF'.cell
    have hfz0 := hv.frozen
    have hd : 1 ≤ m - 1 - 1 := by omega
    have hmx : Tryz.prog.follows .mixedOrders = true := by kernel_rfl
    have hsW := hB.size
    have hrow2 : ((W.drew.alloc (.cells #[.int .i64 (F x 0), .int .i64 (F x 1), .int .i64 (F x 2), .int .i64 (F x 3), .int .i64 (F x 4)] 58)).alloc (.cells #[.int .i64 (F x 3)] 3)).ownsRow w.heap.size 3 1 v pre.length (pre.map fun x => Value.int .i64 (F x 3)) := ((show W.drew.ownsRow w.heap.size 3 1 v pre.length (pre.map fun x => Value.int .i64 (F x 3)) from hrow).alloc _).alloc _
    have hv2' : Boxed (W.drew.alloc (.cells #[.int .i64 (F x 0), .int .i64 (F x 1), .int .i64 (F x 2), .int .i64 (F x 3), .int .i64 (F x 4)] 58)) (w.heap.size + 1) 64 v := (show Boxed W.drew (w.heap.size + 1) 64 v from hv).alloc _
    have hrow1 : (W.drew.alloc (.cells #[.int .i64 (F x 0), .int .i64 (F x 1), .int .i64 (F x 2), .int .i64 (F x 3), .int .i64 (F x 4)] 58)).ownsRow w.heap.size 3 1 v pre.length (pre.map fun x => Value.int .i64 (F x 3)) := (show W.drew.ownsRow w.heap.size 3 1 v pre.length (pre.map fun x => Value.int .i64 (F x 3)) from hrow).alloc _
    have hpost : ∀ (v' : Value) (w1 : World), w1.ownsRow w.heap.size 3 1 v' (pre.length + 1) ((pre.map fun x => Value.int .i64 (F x 3)) ++ [.int .i64 (F x 3)]) → ((W.drew.alloc (.cells #[.int .i64 (F x 0), .int .i64 (F x 1), .int .i64 (F x 2), .int .i64 (F x 3), .int .i64 (F x 4)] 58)).alloc (.cells #[.int .i64 (F x 3)] 3)).grownBy w1 v.ownBlock →
        ∃ g' cap', v' = .slice (some ⟨g', 0, none⟩) (pre.length + 1) cap' ∧ w1.cell? ⟨w.heap.size + 1, 0, none⟩ = some v ∧ w1.frozen? ⟨w.heap.size + 1, 0, none⟩ = false ∧ KeepsFrom W0.heap.size W (w1.setCell ⟨w.heap.size + 1, 0, none⟩ v') ∧ KpB w.heap.size (w.heap.size + 1 + 1) W (w1.setCell ⟨w.heap.size + 1, 0, none⟩ v') ∧
        (((∃ v, Boxed (w1.setCell ⟨w.heap.size + 1, 0, none⟩ v') (w.heap.size + 1) 64 v ∧ (w1.setCell ⟨w.heap.size + 1, 0, none⟩ v').ownsRow w.heap.size 3 1 v (pre ++ [x]).length ((pre ++ [x]).map fun x => Value.int .i64 (F x 3)) ∧ True) ∧ (Boxed (w1.setCell ⟨w.heap.size + 1, 0, none⟩ v') w.heap.size 69 (.func (.func 55) #[] #[]) ∧ Boxed (w1.setCell ⟨w.heap.size + 1, 0, none⟩ v') (w.heap.size + 1 + 1) 40 (.slice A len cap))) ∧ Below w.heap.size w (w1.setCell ⟨w.heap.size + 1, 0, none⟩ v')) := by
      intro v' w1 hown' hgrow
      obtain ⟨g', cap', rfl⟩ := ownsRow_succ hown'
      obtain ⟨hv1, hv2, hr2, hk2, hb2⟩ := Boxed.appended hv2' (by decide) hrow1 (by rw [World.size_alloc]; show w.heap.size ≤ W.heap.size + 1; omega) (by omega) hown' hgrow
      have hkW : KeepsOthers W (W.drew.alloc (.cells #[.int .i64 (F x 0), .int .i64 (F x 1), .int .i64 (F x 2), .int .i64 (F x 3), .int .i64 (F x 4)] 58)) := (KeepsOthers.drew W).trans (KeepsOthers.alloc _ _)
      have hbW : Below w.heap.size W (W.drew.alloc (.cells #[.int .i64 (F x 0), .int .i64 (F x 1), .int .i64 (F x 2), .int .i64 (F x 3), .int .i64 (F x 4)] 58)) := ((Below.refl w.heap.size W).drew).alloc hsW _
      have k1 : Boxed w1 w.heap.size 69 (.func (.func 55) #[] #[]) := (((show Boxed W.drew w.heap.size 69 (.func (.func 55) #[] #[]) from bF').alloc _).alloc _).kept hgrow (Boxed.not_row (((show Boxed W.drew w.heap.size 69 (.func (.func 55) #[] #[]) from bF').alloc _)) (by decide) hrow1)
      have k2 : Boxed w1 (w.heap.size + 1 + 1) 40 (.slice A len cap) := (((show Boxed W.drew (w.heap.size + 1 + 1) 40 (.slice A len cap) from bL').alloc _).alloc _).kept hgrow (Boxed.not_row (((show Boxed W.drew (w.heap.size + 1 + 1) 40 (.slice A len cap) from bL').alloc _)) (by decide) hrow1)
      have k3 := k2.other (show w.heap.size + 1 + 1 ≠ w.heap.size + 1 by omega) (.slice (some ⟨g', 0, none⟩) (pre.length + 1) cap')
      refine ⟨g', cap', rfl, hv1.cell, hv1.frozen, (hkW.trans hk2).from _, ⟨hbW.trans hb2, ?_⟩, ⟨⟨_, hv2, ?_, trivial⟩, k1.other (by omega) _, k3⟩, hB.trans (hbW.trans hb2)⟩
      · exact (show _ = _ from k3).trans (show _ = _ from bL').symm
      · simpa using hr2
    have hnews : ∀ j u, [Value.int .i64 (F x 3)][j]? = some u → ((W.drew.alloc (.cells #[.int .i64 (F x 0), .int .i64 (F x 1), .int .i64 (F x 2), .int .i64 (F x 3), .int .i64 (F x 4)] 58)).alloc (.cells #[.int .i64 (F x 3)] 3)).cell? ((⟨W.heap.size + 1, 0, none⟩ : Addr).add j) = some u := by
      have h := cell_one_new (W.drew.alloc (.cells #[.int .i64 (F x 0), .int .i64 (F x 1), .int .i64 (F x 2), .int .i64 (F x 3), .int .i64 (F x 4)] 58)) (.int .i64 (F x 3)) 3
      rw [World.size_alloc] at h
      exact h
    have hbase : w.heap.size ≤ ((W.drew.alloc (.cells #[.int .i64 (F x 0), .int .i64 (F x 1), .int .i64 (F x 2), .int .i64 (F x 3), .int .i64 (F x 4)] 58)).alloc (.cells #[.int .i64 (F x 3)] 3)).heap.size := by
      rw [World.size_alloc, World.size_alloc]; show w.heap.size ≤ W.heap.size + 1 + 1; omega
    have hcA : (W.alloc (.cells #[.int .i64 (F x 0), .int .i64 (F x 1), .int .i64 (F x 2), .int .i64 (F x 3), .int .i64 (F x 4)] 58)).cell? ⟨w.heap.size + 1, 0, none⟩ = some v := (World.cell?_alloc_past _ _ _ (by have := hv.lt; omega)).trans hc0
    have hcB : ((W.alloc (.cells #[.int .i64 (F x 0), .int .i64 (F x 1), .int .i64 (F x 2), .int .i64 (F x 3), .int .i64 (F x 4)] 58)).alloc (.cells #[.int .i64 (F x 3)] 3)).cell? ⟨w.heap.size + 1, 0, none⟩ = some v := (World.cell?_alloc_past _ _ _ (by have := hv.lt; rw [World.size_alloc]; omega)).trans hcA
    have HPost := Lib.hid hpost
    have HNews := Lib.hid hnews
    have HRow2 := Lib.hid hrow2
    clear hpost hnews hrow2 hrow1 hv2' bF' bL' hrow hv hB hcol hR0 bF bO bL hB0 hR
    gi_wp2
    refine wpIn_region_any hmx ?_
    try (change wpAnyIn _ _ _ _ _ _ _ _ _ (World.drew _))
    repeat' (first
      | ((with_reducible refine ready_id ?_); first
         | exact AllReadyIn.nil
         | (refine AllReadyIn.cons rfl (fun K hK => ?_) ?_))
      | ((with_reducible refine if_id ?_); first
         | (refine opIn_append rfl (Operand.tmp 12) (Operand.tmp 16) 64 rfl w.heap.size 3 i0 (.int .i64 0) 1 8 Tryz.underlying64 hi hz0 hz1 hz2 rfl (by decide) v pre.length _ rfl HRow2.out ⟨W.heap.size + 1, 0, none⟩ 1 1 [.int .i64 (F x 3)] rfl rfl HNews.out (by simp [Value.oneCell']) (by unfold maxLen; omega) (by omega) hbase ?_
            intro v' w1 hown' hgrow
            obtain ⟨g', cap', rfl, hc1, hf1, kf, kp, hI⟩ := HPost.out v' w1 hown' hgrow
            have HF := Lib.hid (And.intro kf (And.intro kp hI))
            clear kf kp hI hown' hgrow
            refine hK _ _ ?_
            clear hK K)
         | (go_simp; refine hK _ _ ?_; clear hK K)
         | (go_simp; gi_wp2_with (first | (refine ⟨trivial, ?_⟩; gi_at_call 55; refine (CallsIn.inRound l (callsIn_wide.2 (written_any _ _ _ _ _ _))).mono ?_; rintro e w1 ⟨rfl, rfl⟩) | (gi_at_call 55; refine (CallsIn.inRound l (callsIn_wide.2 (written_any _ _ _ _ _ _))).mono ?_; rintro e w1 ⟨rfl, rfl⟩))))
      | ((with_reducible refine any_id ?_); first
         | (refine wpAnyIn_ready (rs := [0, 1, 2]) (by decide +kernel) (by simp) ?_)
         | (refine wpAnyIn_ready (rs := [1, 2]) (by decide +kernel) (by simp) ?_)
         | (refine wpAnyIn_ready (rs := [0, 2]) (by decide +kernel) (by simp) ?_)
         | (refine wpAnyIn_ready (rs := [0, 1]) (by decide +kernel) (by simp) ?_)
         | (refine wpAnyIn_ready (rs := [0, 3]) (by decide +kernel) (by simp) ?_)
         | (refine wpAnyIn_ready (rs := [0, 4]) (by decide +kernel) (by simp) ?_)
         | (refine wpAnyIn_ready (rs := [0]) (by decide +kernel) (by simp) ?_)
         | (refine wpAnyIn_ready (rs := [1]) (by decide +kernel) (by simp) ?_)
         | (refine wpAnyIn_ready (rs := [2]) (by decide +kernel) (by simp) ?_)
         | (refine wpAnyIn_ready (rs := [3]) (by decide +kernel) (by simp) ?_)
         | (refine wpAnyIn_ready (rs := [4]) (by decide +kernel) (by simp) ?_)
         | (refine wpAnyIn_ready (rs := [5]) (by decide +kernel) (by simp) ?_)
         | (refine wpAnyIn_ready (rs := [6]) (by decide +kernel) (by simp) ?_)
         | (refine wpAnyIn_done (by decide +kernel) ?_ _)))
    all_goals exact HF.out
  case done =>
    rintro D ys W hD rfl ⟨⟨⟨v, hv, hrow, _⟩, bF', bL'⟩, hB⟩ hK
    have hc := hv.cell
    rw [upI_length] at hrow
    gi_wp2
    refine ⟨by simp, .inl ⟨_, _, rfl, run_takeDeferred hK, ?_⟩⟩
    exact ⟨_, results_tmp rfl _ _ _, v, rfl, ownsRow_putObj hrow _ hK rfl, hB.trans (belowK_b (w := w) (Nat.le_refl _) W D _ _ (by omega) hK rfl rfl)⟩
  case stop =>
    rintro D c pre W _ _ h _
    exact h.elim
/-- The walk of numbers at written. -/
theorem numbers_any (w : World) (B : Nat) (v : Value) (n : Nat) (F : Nat → Nat → Int) (hR : Recs w B v n 5 (IV F)) (hBw : B ≤ w.heap.size) (hn : n ≤ 9) :
    Calls Tryz.prog 54 #[v, .func (.func 55) #[] #[]] w fun e w' => ∃ v', e = .returned v' ∧ w'.ownsRow w.heap.size 3 1 v' n ((upI n n).map fun x => Value.int .i64 (F x 3)) ∧ Below w.heap.size w w' := by
  have hR' := hR.mono hBw
  obtain ⟨A, cap, rfl, hrest⟩ := id hR'
  exact callsIn_wide.1 (numbers_in 6 (Nat.le_refl _) n cap A F hn w hR')
end Go.Proofs.YtfmfjbphflkhiaaGreatDoor
