/-
  No cell of these rows narrows 'for every input' (looked for: loops, veiled, ifaces, maps, wideKeys, modest, calm, conditions, laid).
  DERIVED. THE GIVEN ROWS OF THIS SEAT. 2 by the template 'for every input the law returns true; each argument reads behind the call as it read before'; 0 by the template 'total and deterministic' (their statements: YtfhefngpeknhlabTotals.lean).
  GIVEN WITH THE SEED: the statements are not yours to turn. If you find one false, say at which input.
  Laid BY PROGRAM, IN A SANDBOX (cutbox-rows.mjs): the forced cells as the released guide's own fill.sh prints them over the translation a16318fbae4cc0f8… (all of the seat's roots in one cut). By AI agents, Wed Nov 11 2026. No macro, syntax, notation, axiom, sorry.
-/
import Derived.Test.YtfhefngpeknhlabChecked
import GoSem.Claim
import GoSem.ClaimJoined
import GoSem.ClaimMapViews
import Derived.JoinedTies
import Derived.KernelRfl
namespace Go.Proofs.Ytfhefngpeknhlab
/- THE CELL 'sum', in the pinned program and in every row, IS THE sha256 OF THE DUMP (.gsa) THAT YtfhefngpeknhlabProg.lean LOADS. Nothing in Lean hashes anything: it is a label: what it is worth is what the hold of that sum in a sandbox is worth. -/
noncomputable def Try.pinned : Pinned := { name := "ytfhefngpeknhlab", sum := "a16318fbae4cc0f89e85866e4d240a99fe83615c2eb91c2f32b2ac00fbfe95a9", checked := Try.checked }
namespace Rows
def none {H : Type} : Left H := { results := [], args := [] }

/-- 'laws.FnTestsOk': WHATEVER THE INPUT: true; the input reads as it did. -/
def fnTestsOkSpec : ChangeSpec := { name := "fnTestsOk", fn := fun _ => fun
  | [d] => { results := [.lit (.bool true)], args := [d] }
  | _ => none }
def fnTestsOkRow : OpenClaim := { program := "ytfhefngpeknhlab", sum := "a16318fbae4cc0f89e85866e4d240a99fe83615c2eb91c2f32b2ac00fbfe95a9", func := "loop.example/sumschool/laws.FnTestsOk", spec := "fnTestsOk", inPlace := ["internal/bytealg.abigen_runtime_cmpstring"], unfollowed := true, recurses := true, apart := false }
def FnTestsOkSaid : Prop := fnTestsOkRow.holds Try.pinned (OpenSpec.ofChange fnTestsOkSpec)

/-- ITS FALSE NEIGHBOUR: 'it returns false'. Refute it at one input. -/
def fnTestsOkWrong : ChangeSpec := { name := "fnTestsOk", fn := fun _ => fun
  | [d] => { results := [.lit (.bool false)], args := [d] }
  | _ => none }
def FnTestsOkWrongFalsely : Prop := fnTestsOkRow.holds Try.pinned (OpenSpec.ofChange fnTestsOkWrong)

/-- 'laws.FnNoBorrowing': WHATEVER THE INPUT: true; the input reads as it did. -/
def fnNoBorrowingSpec : ChangeSpec := { name := "fnNoBorrowing", fn := fun _ => fun
  | [d] => { results := [.lit (.bool true)], args := [d] }
  | _ => none }
def fnNoBorrowingRow : OpenClaim := { program := "ytfhefngpeknhlab", sum := "a16318fbae4cc0f89e85866e4d240a99fe83615c2eb91c2f32b2ac00fbfe95a9", func := "loop.example/sumschool/laws.FnNoBorrowing", spec := "fnNoBorrowing", inPlace := ["internal/bytealg.abigen_runtime_cmpstring"], unfollowed := true, recurses := true, apart := false }
def FnNoBorrowingSaid : Prop := fnNoBorrowingRow.holds Try.pinned (OpenSpec.ofChange fnNoBorrowingSpec)

/-- ITS FALSE NEIGHBOUR: 'it returns false'. Refute it at one input. -/
def fnNoBorrowingWrong : ChangeSpec := { name := "fnNoBorrowing", fn := fun _ => fun
  | [d] => { results := [.lit (.bool false)], args := [d] }
  | _ => none }
def FnNoBorrowingWrongFalsely : Prop := fnNoBorrowingRow.holds Try.pinned (OpenSpec.ofChange fnNoBorrowingWrong)

/- THE SECOND FORM. 'bulk': how many values and letters a reading holds, each counted each time it is reached (what is shared counts as often as it is met; a slice's spare places count too). A statement '..UptoSaid' is the law's where the arguments, and the package variables that the reading takes, are together of bulk at most 1048576: NARROWER than '..Said'. Prove '..Said' where nothing that the law and all that it calls make is longer than what came in: it says more and counts as full. Else prove '..UptoSaid'. A law counts once. -/
mutual
def uptoBulk {H : Type} : DataW H → Nat
  | .lit (.string bytes) => bytes.length + 1
  | .lit _ => 1
  | .nil => 1
  | .ptr d => uptoBulk d + 1
  | .slice elems spare => uptoBulkAll elems + uptoBulkAll spare + 1
  | .agg parts => uptoBulkAll parts + 1
  | .iface _ d => uptoBulk d + 1
  | .map entries => uptoBulkEntries entries + 1
  | .held _ => 1
def uptoBulkAll {H : Type} : List (DataW H) → Nat
  | [] => 0
  | d :: r => uptoBulk d + uptoBulkAll r
def uptoBulkEntries {H : Type} : List (Lit × DataW H) → Nat
  | [] => 0
  | x :: r => uptoBulkEntry x + uptoBulkEntries r
def uptoBulkEntry {H : Type} : Lit × DataW H → Nat
  | (.string bytes, d) => bytes.length + uptoBulk d + 1
  | (_, d) => uptoBulk d + 1
 end
def uptoSmall : (H : Type) → List (DataW H) → Bool := fun _ ds => decide (uptoBulkAll ds ≤ 1048576)
def OpenSpec.upto (s : _root_.Go.ChangeSpec) : _root_.Go.OpenSpec := { _root_.Go.OpenSpec.ofChange s with cond := some uptoSmall }

/-- 'laws.FnTestsOk', WHERE WHAT IT READS IS OF BULK AT MOST 1048576: true; the input reads as it did. -/
def fnTestsOkUptoRow : OpenClaim := { program := "ytfhefngpeknhlab", sum := "a16318fbae4cc0f89e85866e4d240a99fe83615c2eb91c2f32b2ac00fbfe95a9", func := "loop.example/sumschool/laws.FnTestsOk", spec := "fnTestsOk", inPlace := ["internal/bytealg.abigen_runtime_cmpstring"], unfollowed := true, recurses := true, apart := false, narrowed := true }
def FnTestsOkUptoSaid : Prop := fnTestsOkUptoRow.holds Try.pinned (OpenSpec.upto fnTestsOkSpec)

/-- 'laws.FnNoBorrowing', WHERE WHAT IT READS IS OF BULK AT MOST 1048576: true; the input reads as it did. -/
def fnNoBorrowingUptoRow : OpenClaim := { program := "ytfhefngpeknhlab", sum := "a16318fbae4cc0f89e85866e4d240a99fe83615c2eb91c2f32b2ac00fbfe95a9", func := "loop.example/sumschool/laws.FnNoBorrowing", spec := "fnNoBorrowing", inPlace := ["internal/bytealg.abigen_runtime_cmpstring"], unfollowed := true, recurses := true, apart := false, narrowed := true }
def FnNoBorrowingUptoSaid : Prop := fnNoBorrowingUptoRow.holds Try.pinned (OpenSpec.upto fnNoBorrowingSpec)

end Rows
end Go.Proofs.Ytfhefngpeknhlab
