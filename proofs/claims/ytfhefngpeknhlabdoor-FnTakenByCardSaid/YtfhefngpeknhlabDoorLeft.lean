/- The walks of the program's LeftOf and DifferenceOf at a right transcript. -/
import Derived.Test.YtfhefngpeknhlabDoorNmb
import Derived.Test.YtfhefngpeknhlabDoorTkg
import Derived.Test.YtfhefngpeknhlabDoorPlain
namespace Go.Proofs.YtfhefngpeknhlabDoor
set_option linter.unusedVariables false
set_option linter.unusedSimpArgs false
open Go.RowKit

theorem upI_map (G : Nat → Int) (n : Nat) : (upI n n).map G = ((List.range n).map G).reverse := by
  apply List.ext_getElem
  · simp [upI]
  · intro i h1 h2
    have hi : i < n := by simpa [upI] using h1
    simp [upI, hi]
theorem nums_eq (F : Nat → Nat → Int) (n : Nat) : ((upI n n).map fun x => Value.int .i64 (F x 3)) = (((List.range n).map fun i => F i 3).reverse).map (Value.int .i64) := by
  rw [← upI_map, List.map_map]; rfl
set_option maxRecDepth 20000 in
set_option maxHeartbeats 2000000 in
theorem iLeftOf_ok (w : World) (B : Nat) (v : Value) (n : Nat) (F : Nat → Nat → Int) (hR : Recs w B v n 5 (IV F)) (hBw : B ≤ w.heap.size) (hT : takRight F n) (hn : 0 < n) :
    Calls Tryd.prog 47 #[v] w fun e w' => e = .returned (.tuple #[.string (plS ((List.range n).map fun i => F i 3).reverse), .bool true]) ∧ Below w.heap.size w w' := by
  have HW := Lib.hid (iWrongTaken_ok w B v n F hR hBw hT)
  have hn9 := hT.1
  have hd : ∀ d ∈ ((List.range n).map fun i => F i 3).reverse, 0 ≤ d ∧ d ≤ 9 := by
    intro d hd
    simp only [List.mem_reverse, List.mem_map, List.mem_range] at hd
    obtain ⟨i, hi, rfl⟩ := hd
    exact (hT.2.1 i hi).2.2.2.1
  have hl : (((List.range n).map fun i => F i 3).reverse).length = n := by simp
  have hpb : plB ((List.range n).map fun i => F i 3).reverse = true := plB_short (fun e => by rw [e] at hl; simp at hl; omega) (by omega)
  have HN := Lib.hid fun W hRw hBW => numbers_any W B v n F hRw hBW hn9
  have HP := Lib.hid fun W v (hRw : IntSl W W.heap.size v ((List.range n).map fun i => F i 3).reverse) => plain_any W W.heap.size v _ hRw (Nat.le_refl _) hd (by omega)
  have HE := Lib.hid (nums_eq F n)
  have HR := Lib.hid hR
  obtain ⟨A, cap, rfl, hnc, hcm, _⟩ := hR
  unfold maxLen at hcm
  have e0 : ((n : Int) == 0) = false := by rw [beq_eq_false_iff_ne]; omega
  rw [HE.out] at HN
  clear hT hd HE
  generalize ((List.range n).map fun i => F i 3).reverse = ds at *
  go_enter Tryd.func47, Tryd.ntmps47
  go_wp2_with fail
  refine HW.out.mono ?_
  rintro e w1 ⟨rfl, b1⟩
  have hR1 := HR.out.below b1 hBw
  have hs1 := b1.size
  go_wp2_with fail
  refine (HN.out _ hR1 (by omega)).mono ?_
  rintro e w2 ⟨v2, rfl, o2, b2⟩
  have hB2 := below_own b1 b2 b1.size
  have s2 : IntSl w2 w2.heap.size v2 ds := IntSl.of_own (by rw [hl]; exact Own.of_row o2)
  clear o2
  go_wp2_with fail
  refine (HP.out _ v2 s2).mono ?_
  rintro e w3 ⟨rfl, b3⟩
  have hB3 := below_own hB2 b3 hB2.size
  rw [hpb]
  go_wp2_with fail
  go_ret2
  exact ⟨rfl, hB3⟩
set_option maxRecDepth 20000 in
theorem iDifference (s t : ByteArray) (hs : s.size ≤ maxLen) (ht : t.size ≤ maxLen) (hk : takB s.data.toList t.data.toList = true) (w : World) :
    Calls Tryd.prog 25 #[.string s, .string t] w fun e w' => e = .returned (.tuple #[.string (tkS s.data.toList t.data.toList 0), .bool true]) ∧ Below w.heap.size w w' := by
  have HT := Lib.hid (iTakenOf s t hs ht hk w)
  have hr := tk_right hk
  rw [str_len] at hr
  have hl := (numB_len (takB_num hk).1).1
  rw [str_len] at hl
  have HL := Lib.hid fun W v (hRc : Recs W W.heap.size v s.size 5 (IV (tkF s.data.toList t.data.toList))) => iLeftOf_ok W W.heap.size v s.size _ hRc (Nat.le_refl _) hr hl
  have HE : Hid (plS ((List.range s.size).map fun i => tkF s.data.toList t.data.toList i 3).reverse = tkS s.data.toList t.data.toList 0) := Lib.hid (by unfold tkS; rw [str_len]; rfl)
  rw [HE.out] at HL
  clear hs ht hk hr HE
  go_enter Tryd.func25, Tryd.ntmps25
  go_wp2_with fail
  refine HT.out.mono ?_
  rintro e w1 ⟨v1, rfl, o1, b1⟩
  go_wp2_with fail
  refine (HL.out _ v1 (Recs.of_own o1)).mono ?_
  rintro e w2 ⟨rfl, b2⟩
  go_wp2_with fail
  go_ret2
  exact ⟨rfl, below_own b1 b2 b1.size⟩
end Go.Proofs.YtfhefngpeknhlabDoor
