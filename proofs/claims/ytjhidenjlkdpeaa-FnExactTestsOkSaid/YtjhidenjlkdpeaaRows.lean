/-
  No cell of these rows narrows 'for every input' (looked for: loops, veiled, ifaces, maps, wideKeys, modest, calm, conditions, laid).
  DERIVED. THE GIVEN ROWS OF THIS SEAT. 12 by the template 'for every input the law returns true; each argument reads behind the call as it read before'; 0 by the template 'total and deterministic' (their statements: YtjhidenjlkdpeaaTotals.lean).
  GIVEN WITH THE SEED: the statements are not yours to turn. If you find one false, say at which input.
  Laid BY PROGRAM, IN A SANDBOX (cutbox-rows.mjs): the forced cells as the released guide's own fill.sh prints them over the translation dc96aff1470a0495… (all of the seat's roots in one cut). By AI agents, Wed Nov 11 2026. No macro, syntax, notation, axiom, sorry.
-/
import Derived.Test.YtjhidenjlkdpeaaChecked
import GoSem.Claim
import GoSem.ClaimJoined
import GoSem.ClaimMapViews
import Derived.JoinedTies
import Derived.KernelRfl
namespace Go.Proofs.Ytjhidenjlkdpeaa
/- THE CELL 'sum', in the pinned program and in every row, IS THE sha256 OF THE DUMP (.gsa) THAT YtjhidenjlkdpeaaProg.lean LOADS. Nothing in Lean hashes anything: it is a label: what it is worth is what the hold of that sum in a sandbox is worth. -/
noncomputable def Try.pinned : Pinned := { name := "ytjhidenjlkdpeaa", sum := "dc96aff1470a04957c977ffc1103ee1fdc654fe86a2526c671e9408cb40d3b3d", checked := Try.checked }
namespace Rows
def none {H : Type} : Left H := { results := [], args := [] }

/-- 'laws.FnExactWaitOf': WHATEVER THE INPUT: true; the input reads as it did. -/
def fnExactWaitOfSpec : ChangeSpec := { name := "fnExactWaitOf", fn := fun _ => fun
  | [d] => { results := [.lit (.bool true)], args := [d] }
  | _ => none }
def fnExactWaitOfRow : OpenClaim := { program := "ytjhidenjlkdpeaa", sum := "dc96aff1470a04957c977ffc1103ee1fdc654fe86a2526c671e9408cb40d3b3d", func := "loop.example/sumschool/laws.FnExactWaitOf", spec := "fnExactWaitOf", apart := false }
def FnExactWaitOfSaid : Prop := fnExactWaitOfRow.holds Try.pinned (OpenSpec.ofChange fnExactWaitOfSpec)

/-- ITS FALSE NEIGHBOUR: 'it returns false'. Refute it at one input. -/
def fnExactWaitOfWrong : ChangeSpec := { name := "fnExactWaitOf", fn := fun _ => fun
  | [d] => { results := [.lit (.bool false)], args := [d] }
  | _ => none }
def FnExactWaitOfWrongFalsely : Prop := fnExactWaitOfRow.holds Try.pinned (OpenSpec.ofChange fnExactWaitOfWrong)

/-- 'laws.FnExactPeriodOf': WHATEVER THE INPUT: true; the input reads as it did. -/
def fnExactPeriodOfSpec : ChangeSpec := { name := "fnExactPeriodOf", fn := fun _ => fun
  | [d1, d2] => { results := [.lit (.bool true)], args := [d1, d2] }
  | _ => none }
def fnExactPeriodOfRow : OpenClaim := { program := "ytjhidenjlkdpeaa", sum := "dc96aff1470a04957c977ffc1103ee1fdc654fe86a2526c671e9408cb40d3b3d", func := "loop.example/sumschool/laws.FnExactPeriodOf", spec := "fnExactPeriodOf", apart := false }
def FnExactPeriodOfSaid : Prop := fnExactPeriodOfRow.holds Try.pinned (OpenSpec.ofChange fnExactPeriodOfSpec)

/-- ITS FALSE NEIGHBOUR: 'it returns false'. Refute it at one input. -/
def fnExactPeriodOfWrong : ChangeSpec := { name := "fnExactPeriodOf", fn := fun _ => fun
  | [d1, d2] => { results := [.lit (.bool false)], args := [d1, d2] }
  | _ => none }
def FnExactPeriodOfWrongFalsely : Prop := fnExactPeriodOfRow.holds Try.pinned (OpenSpec.ofChange fnExactPeriodOfWrong)

/-- 'laws.FnExactFractionDigits': WHATEVER THE INPUT: true; the input reads as it did. -/
def fnExactFractionDigitsSpec : ChangeSpec := { name := "fnExactFractionDigits", fn := fun _ => fun
  | [d1, d2, d3] => { results := [.lit (.bool true)], args := [d1, d2, d3] }
  | _ => none }
def fnExactFractionDigitsRow : OpenClaim := { program := "ytjhidenjlkdpeaa", sum := "dc96aff1470a04957c977ffc1103ee1fdc654fe86a2526c671e9408cb40d3b3d", func := "loop.example/sumschool/laws.FnExactFractionDigits", spec := "fnExactFractionDigits", apart := false }
def FnExactFractionDigitsSaid : Prop := fnExactFractionDigitsRow.holds Try.pinned (OpenSpec.ofChange fnExactFractionDigitsSpec)

/-- ITS FALSE NEIGHBOUR: 'it returns false'. Refute it at one input. -/
def fnExactFractionDigitsWrong : ChangeSpec := { name := "fnExactFractionDigits", fn := fun _ => fun
  | [d1, d2, d3] => { results := [.lit (.bool false)], args := [d1, d2, d3] }
  | _ => none }
def FnExactFractionDigitsWrongFalsely : Prop := fnExactFractionDigitsRow.holds Try.pinned (OpenSpec.ofChange fnExactFractionDigitsWrong)

/-- 'laws.FnExactFaultsIn': WHATEVER THE INPUT: true; the input reads as it did. -/
def fnExactFaultsInSpec : ChangeSpec := { name := "fnExactFaultsIn", fn := fun _ => fun
  | [d] => { results := [.lit (.bool true)], args := [d] }
  | _ => none }
def fnExactFaultsInRow : OpenClaim := { program := "ytjhidenjlkdpeaa", sum := "dc96aff1470a04957c977ffc1103ee1fdc654fe86a2526c671e9408cb40d3b3d", func := "loop.example/sumschool/laws.FnExactFaultsIn", spec := "fnExactFaultsIn", apart := false }
def FnExactFaultsInSaid : Prop := fnExactFaultsInRow.holds Try.pinned (OpenSpec.ofChange fnExactFaultsInSpec)

/-- ITS FALSE NEIGHBOUR: 'it returns false'. Refute it at one input. -/
def fnExactFaultsInWrong : ChangeSpec := { name := "fnExactFaultsIn", fn := fun _ => fun
  | [d] => { results := [.lit (.bool false)], args := [d] }
  | _ => none }
def FnExactFaultsInWrongFalsely : Prop := fnExactFaultsInRow.holds Try.pinned (OpenSpec.ofChange fnExactFaultsInWrong)

/-- 'laws.FnFractionDigits': WHATEVER THE INPUT: true; the input reads as it did. -/
def fnFractionDigitsSpec : ChangeSpec := { name := "fnFractionDigits", fn := fun _ => fun
  | [d] => { results := [.lit (.bool true)], args := [d] }
  | _ => none }
def fnFractionDigitsRow : OpenClaim := { program := "ytjhidenjlkdpeaa", sum := "dc96aff1470a04957c977ffc1103ee1fdc654fe86a2526c671e9408cb40d3b3d", func := "loop.example/sumschool/laws.FnFractionDigits", spec := "fnFractionDigits", apart := false }
def FnFractionDigitsSaid : Prop := fnFractionDigitsRow.holds Try.pinned (OpenSpec.ofChange fnFractionDigitsSpec)

/-- ITS FALSE NEIGHBOUR: 'it returns false'. Refute it at one input. -/
def fnFractionDigitsWrong : ChangeSpec := { name := "fnFractionDigits", fn := fun _ => fun
  | [d] => { results := [.lit (.bool false)], args := [d] }
  | _ => none }
def FnFractionDigitsWrongFalsely : Prop := fnFractionDigitsRow.holds Try.pinned (OpenSpec.ofChange fnFractionDigitsWrong)

/-- 'laws.FnExactWrongStep': WHATEVER THE INPUT: true; the input reads as it did. -/
def fnExactWrongStepSpec : ChangeSpec := { name := "fnExactWrongStep", fn := fun _ => fun
  | [d1, d2] => { results := [.lit (.bool true)], args := [d1, d2] }
  | _ => none }
def fnExactWrongStepRow : OpenClaim := { program := "ytjhidenjlkdpeaa", sum := "dc96aff1470a04957c977ffc1103ee1fdc654fe86a2526c671e9408cb40d3b3d", func := "loop.example/sumschool/laws.FnExactWrongStep", spec := "fnExactWrongStep", apart := false }
def FnExactWrongStepSaid : Prop := fnExactWrongStepRow.holds Try.pinned (OpenSpec.ofChange fnExactWrongStepSpec)

/-- ITS FALSE NEIGHBOUR: 'it returns false'. Refute it at one input. -/
def fnExactWrongStepWrong : ChangeSpec := { name := "fnExactWrongStep", fn := fun _ => fun
  | [d1, d2] => { results := [.lit (.bool false)], args := [d1, d2] }
  | _ => none }
def FnExactWrongStepWrongFalsely : Prop := fnExactWrongStepRow.holds Try.pinned (OpenSpec.ofChange fnExactWrongStepWrong)

/-- 'laws.FnPeriodOf': WHATEVER THE INPUT: true; the input reads as it did. -/
def fnPeriodOfSpec : ChangeSpec := { name := "fnPeriodOf", fn := fun _ => fun
  | [d] => { results := [.lit (.bool true)], args := [d] }
  | _ => none }
def fnPeriodOfRow : OpenClaim := { program := "ytjhidenjlkdpeaa", sum := "dc96aff1470a04957c977ffc1103ee1fdc654fe86a2526c671e9408cb40d3b3d", func := "loop.example/sumschool/laws.FnPeriodOf", spec := "fnPeriodOf", apart := false }
def FnPeriodOfSaid : Prop := fnPeriodOfRow.holds Try.pinned (OpenSpec.ofChange fnPeriodOfSpec)

/-- ITS FALSE NEIGHBOUR: 'it returns false'. Refute it at one input. -/
def fnPeriodOfWrong : ChangeSpec := { name := "fnPeriodOf", fn := fun _ => fun
  | [d] => { results := [.lit (.bool false)], args := [d] }
  | _ => none }
def FnPeriodOfWrongFalsely : Prop := fnPeriodOfRow.holds Try.pinned (OpenSpec.ofChange fnPeriodOfWrong)

/-- 'laws.FnFaultsIn': WHATEVER THE INPUT: true; the input reads as it did. -/
def fnFaultsInSpec : ChangeSpec := { name := "fnFaultsIn", fn := fun _ => fun
  | [d] => { results := [.lit (.bool true)], args := [d] }
  | _ => none }
def fnFaultsInRow : OpenClaim := { program := "ytjhidenjlkdpeaa", sum := "dc96aff1470a04957c977ffc1103ee1fdc654fe86a2526c671e9408cb40d3b3d", func := "loop.example/sumschool/laws.FnFaultsIn", spec := "fnFaultsIn", apart := false }
def FnFaultsInSaid : Prop := fnFaultsInRow.holds Try.pinned (OpenSpec.ofChange fnFaultsInSpec)

/-- ITS FALSE NEIGHBOUR: 'it returns false'. Refute it at one input. -/
def fnFaultsInWrong : ChangeSpec := { name := "fnFaultsIn", fn := fun _ => fun
  | [d] => { results := [.lit (.bool false)], args := [d] }
  | _ => none }
def FnFaultsInWrongFalsely : Prop := fnFaultsInRow.holds Try.pinned (OpenSpec.ofChange fnFaultsInWrong)

/-- 'laws.FnExactNoBorrowing': WHATEVER THE INPUT: true; the input reads as it did. -/
def fnExactNoBorrowingSpec : ChangeSpec := { name := "fnExactNoBorrowing", fn := fun _ => fun
  | [d1, d2] => { results := [.lit (.bool true)], args := [d1, d2] }
  | _ => none }
def fnExactNoBorrowingRow : OpenClaim := { program := "ytjhidenjlkdpeaa", sum := "dc96aff1470a04957c977ffc1103ee1fdc654fe86a2526c671e9408cb40d3b3d", func := "loop.example/sumschool/laws.FnExactNoBorrowing", spec := "fnExactNoBorrowing", inPlace := ["internal/bytealg.abigen_runtime_cmpstring"], apart := false }
def FnExactNoBorrowingSaid : Prop := fnExactNoBorrowingRow.holds Try.pinned (OpenSpec.ofChange fnExactNoBorrowingSpec)

/-- ITS FALSE NEIGHBOUR: 'it returns false'. Refute it at one input. -/
def fnExactNoBorrowingWrong : ChangeSpec := { name := "fnExactNoBorrowing", fn := fun _ => fun
  | [d1, d2] => { results := [.lit (.bool false)], args := [d1, d2] }
  | _ => none }
def FnExactNoBorrowingWrongFalsely : Prop := fnExactNoBorrowingRow.holds Try.pinned (OpenSpec.ofChange fnExactNoBorrowingWrong)

/-- 'laws.FnExactDividedOf': WHATEVER THE INPUT: true; the input reads as it did. -/
def fnExactDividedOfSpec : ChangeSpec := { name := "fnExactDividedOf", fn := fun _ => fun
  | [d1, d2] => { results := [.lit (.bool true)], args := [d1, d2] }
  | _ => none }
def fnExactDividedOfRow : OpenClaim := { program := "ytjhidenjlkdpeaa", sum := "dc96aff1470a04957c977ffc1103ee1fdc654fe86a2526c671e9408cb40d3b3d", func := "loop.example/sumschool/laws.FnExactDividedOf", spec := "fnExactDividedOf", apart := false }
def FnExactDividedOfSaid : Prop := fnExactDividedOfRow.holds Try.pinned (OpenSpec.ofChange fnExactDividedOfSpec)

/-- ITS FALSE NEIGHBOUR: 'it returns false'. Refute it at one input. -/
def fnExactDividedOfWrong : ChangeSpec := { name := "fnExactDividedOf", fn := fun _ => fun
  | [d1, d2] => { results := [.lit (.bool false)], args := [d1, d2] }
  | _ => none }
def FnExactDividedOfWrongFalsely : Prop := fnExactDividedOfRow.holds Try.pinned (OpenSpec.ofChange fnExactDividedOfWrong)

/-- 'laws.FnWrongStep': WHATEVER THE INPUT: true; the input reads as it did. -/
def fnWrongStepSpec : ChangeSpec := { name := "fnWrongStep", fn := fun _ => fun
  | [d] => { results := [.lit (.bool true)], args := [d] }
  | _ => none }
def fnWrongStepRow : OpenClaim := { program := "ytjhidenjlkdpeaa", sum := "dc96aff1470a04957c977ffc1103ee1fdc654fe86a2526c671e9408cb40d3b3d", func := "loop.example/sumschool/laws.FnWrongStep", spec := "fnWrongStep", recurses := true, apart := false }
def FnWrongStepSaid : Prop := fnWrongStepRow.holds Try.pinned (OpenSpec.ofChange fnWrongStepSpec)

/-- ITS FALSE NEIGHBOUR: 'it returns false'. Refute it at one input. -/
def fnWrongStepWrong : ChangeSpec := { name := "fnWrongStep", fn := fun _ => fun
  | [d] => { results := [.lit (.bool false)], args := [d] }
  | _ => none }
def FnWrongStepWrongFalsely : Prop := fnWrongStepRow.holds Try.pinned (OpenSpec.ofChange fnWrongStepWrong)

/-- 'laws.FnExactTestsOk': WHATEVER THE INPUT: true; the input reads as it did. -/
def fnExactTestsOkSpec : ChangeSpec := { name := "fnExactTestsOk", fn := fun _ => fun
  | [d] => { results := [.lit (.bool true)], args := [d] }
  | _ => none }
def fnExactTestsOkRow : OpenClaim := { program := "ytjhidenjlkdpeaa", sum := "dc96aff1470a04957c977ffc1103ee1fdc654fe86a2526c671e9408cb40d3b3d", func := "loop.example/sumschool/laws.FnExactTestsOk", spec := "fnExactTestsOk", inPlace := ["internal/bytealg.abigen_runtime_cmpstring"], unfollowed := true, recurses := true, apart := false }
def FnExactTestsOkSaid : Prop := fnExactTestsOkRow.holds Try.pinned (OpenSpec.ofChange fnExactTestsOkSpec)

/-- ITS FALSE NEIGHBOUR: 'it returns false'. Refute it at one input. -/
def fnExactTestsOkWrong : ChangeSpec := { name := "fnExactTestsOk", fn := fun _ => fun
  | [d] => { results := [.lit (.bool false)], args := [d] }
  | _ => none }
def FnExactTestsOkWrongFalsely : Prop := fnExactTestsOkRow.holds Try.pinned (OpenSpec.ofChange fnExactTestsOkWrong)

/- THE SECOND FORM. 'bulk': how many values and letters a reading holds, each counted each time it is reached (what is shared counts as often as it is met; a slice's spare places count too). A statement '..UptoSaid' is the law's where the arguments, and the package variables that the reading takes, are together of bulk at most 1048576: NARROWER than '..Said'. Prove '..Said' where nothing that the law and all that it calls make is longer than what came in: it says more and counts as full. Else prove '..UptoSaid'. A law counts once. -/
mutual
def uptoBulk {H : Type} : DataW H → Nat
  | .lit (.string bytes) => bytes.length + 1
  | .lit _ => 1
  | .nil => 1
  | .ptr d => uptoBulk d + 1
  | .slice elems spare => uptoBulkAll elems + uptoBulkAll spare + 1
  | .agg parts => uptoBulkAll parts + 1
  | .iface _ d => uptoBulk d + 1
  | .map entries => uptoBulkEntries entries + 1
  | .held _ => 1
def uptoBulkAll {H : Type} : List (DataW H) → Nat
  | [] => 0
  | d :: r => uptoBulk d + uptoBulkAll r
def uptoBulkEntries {H : Type} : List (Lit × DataW H) → Nat
  | [] => 0
  | x :: r => uptoBulkEntry x + uptoBulkEntries r
def uptoBulkEntry {H : Type} : Lit × DataW H → Nat
  | (.string bytes, d) => bytes.length + uptoBulk d + 1
  | (_, d) => uptoBulk d + 1
 end
def uptoSmall : (H : Type) → List (DataW H) → Bool := fun _ ds => decide (uptoBulkAll ds ≤ 1048576)
def OpenSpec.upto (s : _root_.Go.ChangeSpec) : _root_.Go.OpenSpec := { _root_.Go.OpenSpec.ofChange s with cond := some uptoSmall }

/-- 'laws.FnExactWaitOf', WHERE WHAT IT READS IS OF BULK AT MOST 1048576: true; the input reads as it did. -/
def fnExactWaitOfUptoRow : OpenClaim := { program := "ytjhidenjlkdpeaa", sum := "dc96aff1470a04957c977ffc1103ee1fdc654fe86a2526c671e9408cb40d3b3d", func := "loop.example/sumschool/laws.FnExactWaitOf", spec := "fnExactWaitOf", apart := false, narrowed := true }
def FnExactWaitOfUptoSaid : Prop := fnExactWaitOfUptoRow.holds Try.pinned (OpenSpec.upto fnExactWaitOfSpec)

/-- 'laws.FnExactPeriodOf', WHERE WHAT IT READS IS OF BULK AT MOST 1048576: true; the input reads as it did. -/
def fnExactPeriodOfUptoRow : OpenClaim := { program := "ytjhidenjlkdpeaa", sum := "dc96aff1470a04957c977ffc1103ee1fdc654fe86a2526c671e9408cb40d3b3d", func := "loop.example/sumschool/laws.FnExactPeriodOf", spec := "fnExactPeriodOf", apart := false, narrowed := true }
def FnExactPeriodOfUptoSaid : Prop := fnExactPeriodOfUptoRow.holds Try.pinned (OpenSpec.upto fnExactPeriodOfSpec)

/-- 'laws.FnExactFractionDigits', WHERE WHAT IT READS IS OF BULK AT MOST 1048576: true; the input reads as it did. -/
def fnExactFractionDigitsUptoRow : OpenClaim := { program := "ytjhidenjlkdpeaa", sum := "dc96aff1470a04957c977ffc1103ee1fdc654fe86a2526c671e9408cb40d3b3d", func := "loop.example/sumschool/laws.FnExactFractionDigits", spec := "fnExactFractionDigits", apart := false, narrowed := true }
def FnExactFractionDigitsUptoSaid : Prop := fnExactFractionDigitsUptoRow.holds Try.pinned (OpenSpec.upto fnExactFractionDigitsSpec)

/-- 'laws.FnExactFaultsIn', WHERE WHAT IT READS IS OF BULK AT MOST 1048576: true; the input reads as it did. -/
def fnExactFaultsInUptoRow : OpenClaim := { program := "ytjhidenjlkdpeaa", sum := "dc96aff1470a04957c977ffc1103ee1fdc654fe86a2526c671e9408cb40d3b3d", func := "loop.example/sumschool/laws.FnExactFaultsIn", spec := "fnExactFaultsIn", apart := false, narrowed := true }
def FnExactFaultsInUptoSaid : Prop := fnExactFaultsInUptoRow.holds Try.pinned (OpenSpec.upto fnExactFaultsInSpec)

/-- 'laws.FnFractionDigits', WHERE WHAT IT READS IS OF BULK AT MOST 1048576: true; the input reads as it did. -/
def fnFractionDigitsUptoRow : OpenClaim := { program := "ytjhidenjlkdpeaa", sum := "dc96aff1470a04957c977ffc1103ee1fdc654fe86a2526c671e9408cb40d3b3d", func := "loop.example/sumschool/laws.FnFractionDigits", spec := "fnFractionDigits", apart := false, narrowed := true }
def FnFractionDigitsUptoSaid : Prop := fnFractionDigitsUptoRow.holds Try.pinned (OpenSpec.upto fnFractionDigitsSpec)

/-- 'laws.FnExactWrongStep', WHERE WHAT IT READS IS OF BULK AT MOST 1048576: true; the input reads as it did. -/
def fnExactWrongStepUptoRow : OpenClaim := { program := "ytjhidenjlkdpeaa", sum := "dc96aff1470a04957c977ffc1103ee1fdc654fe86a2526c671e9408cb40d3b3d", func := "loop.example/sumschool/laws.FnExactWrongStep", spec := "fnExactWrongStep", apart := false, narrowed := true }
def FnExactWrongStepUptoSaid : Prop := fnExactWrongStepUptoRow.holds Try.pinned (OpenSpec.upto fnExactWrongStepSpec)

/-- 'laws.FnPeriodOf', WHERE WHAT IT READS IS OF BULK AT MOST 1048576: true; the input reads as it did. -/
def fnPeriodOfUptoRow : OpenClaim := { program := "ytjhidenjlkdpeaa", sum := "dc96aff1470a04957c977ffc1103ee1fdc654fe86a2526c671e9408cb40d3b3d", func := "loop.example/sumschool/laws.FnPeriodOf", spec := "fnPeriodOf", apart := false, narrowed := true }
def FnPeriodOfUptoSaid : Prop := fnPeriodOfUptoRow.holds Try.pinned (OpenSpec.upto fnPeriodOfSpec)

/-- 'laws.FnFaultsIn', WHERE WHAT IT READS IS OF BULK AT MOST 1048576: true; the input reads as it did. -/
def fnFaultsInUptoRow : OpenClaim := { program := "ytjhidenjlkdpeaa", sum := "dc96aff1470a04957c977ffc1103ee1fdc654fe86a2526c671e9408cb40d3b3d", func := "loop.example/sumschool/laws.FnFaultsIn", spec := "fnFaultsIn", apart := false, narrowed := true }
def FnFaultsInUptoSaid : Prop := fnFaultsInUptoRow.holds Try.pinned (OpenSpec.upto fnFaultsInSpec)

/-- 'laws.FnExactNoBorrowing', WHERE WHAT IT READS IS OF BULK AT MOST 1048576: true; the input reads as it did. -/
def fnExactNoBorrowingUptoRow : OpenClaim := { program := "ytjhidenjlkdpeaa", sum := "dc96aff1470a04957c977ffc1103ee1fdc654fe86a2526c671e9408cb40d3b3d", func := "loop.example/sumschool/laws.FnExactNoBorrowing", spec := "fnExactNoBorrowing", inPlace := ["internal/bytealg.abigen_runtime_cmpstring"], apart := false, narrowed := true }
def FnExactNoBorrowingUptoSaid : Prop := fnExactNoBorrowingUptoRow.holds Try.pinned (OpenSpec.upto fnExactNoBorrowingSpec)

/-- 'laws.FnExactDividedOf', WHERE WHAT IT READS IS OF BULK AT MOST 1048576: true; the input reads as it did. -/
def fnExactDividedOfUptoRow : OpenClaim := { program := "ytjhidenjlkdpeaa", sum := "dc96aff1470a04957c977ffc1103ee1fdc654fe86a2526c671e9408cb40d3b3d", func := "loop.example/sumschool/laws.FnExactDividedOf", spec := "fnExactDividedOf", apart := false, narrowed := true }
def FnExactDividedOfUptoSaid : Prop := fnExactDividedOfUptoRow.holds Try.pinned (OpenSpec.upto fnExactDividedOfSpec)

/-- 'laws.FnWrongStep', WHERE WHAT IT READS IS OF BULK AT MOST 1048576: true; the input reads as it did. -/
def fnWrongStepUptoRow : OpenClaim := { program := "ytjhidenjlkdpeaa", sum := "dc96aff1470a04957c977ffc1103ee1fdc654fe86a2526c671e9408cb40d3b3d", func := "loop.example/sumschool/laws.FnWrongStep", spec := "fnWrongStep", recurses := true, apart := false, narrowed := true }
def FnWrongStepUptoSaid : Prop := fnWrongStepUptoRow.holds Try.pinned (OpenSpec.upto fnWrongStepSpec)

/-- 'laws.FnExactTestsOk', WHERE WHAT IT READS IS OF BULK AT MOST 1048576: true; the input reads as it did. -/
def fnExactTestsOkUptoRow : OpenClaim := { program := "ytjhidenjlkdpeaa", sum := "dc96aff1470a04957c977ffc1103ee1fdc654fe86a2526c671e9408cb40d3b3d", func := "loop.example/sumschool/laws.FnExactTestsOk", spec := "fnExactTestsOk", inPlace := ["internal/bytealg.abigen_runtime_cmpstring"], unfollowed := true, recurses := true, apart := false, narrowed := true }
def FnExactTestsOkUptoSaid : Prop := fnExactTestsOkUptoRow.holds Try.pinned (OpenSpec.upto fnExactTestsOkSpec)

end Rows
end Go.Proofs.Ytjhidenjlkdpeaa
