/-
  NARROWER THAN 'FOR EVERY INPUT', by the rows' own cells (each row's printed sentence says how): FnAnsweredBy: laid · FnWaysFor: laid · FnExactAnsweredBy: laid · FnSilentIn: laid · FnExactWaysFor: laid · FnApartBy: laid · FnExactApartBy: laid · FnScoreOf: laid · FnExactSimplestFor: laid · FnSimplestFor: laid · FnExactNextTest: laid · FnNextTest: laid.
  DERIVED. THE GIVEN ROWS OF THIS SEAT. 12 by the template 'for every input the law returns true; each argument reads behind the call as it read before'; 0 by the template 'total and deterministic' (their statements: YtfhefngpeknhlaaDoorTotals.lean).
  GIVEN WITH THE SEED: the statements are not yours to turn. If you find one false, say at which input.
  Laid BY PROGRAM, IN A SANDBOX (cutbox-rows.mjs): the forced cells as the released guide's own fill.sh prints them over the translation 7b2defbb56b67bda… (all of the seat's roots in one cut). By AI agents, Wed Nov 11 2026. No macro, syntax, notation, axiom, sorry.
-/
import Derived.Test.YtfhefngpeknhlaaDoorChecked
import GoSem.PinnedTables
import GoSem.Claim
import GoSem.ClaimJoined
import GoSem.ClaimMapViews
import Derived.JoinedTies
import Derived.KernelRfl
namespace Go.Proofs.YtfhefngpeknhlaaDoor
/- THE CELL 'sum', in the pinned program and in every row, IS THE sha256 OF THE DUMP (.gsa) THAT YtfhefngpeknhlaaDoorProg.lean LOADS. Nothing in Lean hashes anything: it is a label: what it is worth is what the hold of that sum in a sandbox is worth. -/
noncomputable def Tryd.pinned : Pinned := { name := "ytfhefngpeknhlaadoor", sum := "7b2defbb56b67bdadd85f1b811dcb1332dd92abbbdeb00c89669cb260f057a85", checked := Tryd.checked }
namespace Rows
def none {H : Type} : Left H := { results := [], args := [] }

/- WHAT THE LISTED PACKAGE-LEVEL VARIABLES READ AS WHEN THE CALL BEGINS. Each datum BY PROGRAM (the guide's laid-datum.mjs) off the statement by which the dump's own 'gosem.cut.vars' lays the variable. In a bare row this is a premise. The card (YtfhefngpeknhlaaDoorCards.lean) ties it to the program's text. -/
def laid_math_bits_deBruijn32tab {H : Type} : DataW H := .agg [.lit (.int .u8 0), .lit (.int .u8 1), .lit (.int .u8 28), .lit (.int .u8 2), .lit (.int .u8 29), .lit (.int .u8 14), .lit (.int .u8 24), .lit (.int .u8 3), .lit (.int .u8 30), .lit (.int .u8 22), .lit (.int .u8 20), .lit (.int .u8 15), .lit (.int .u8 25), .lit (.int .u8 17), .lit (.int .u8 4), .lit (.int .u8 8), .lit (.int .u8 31), .lit (.int .u8 27), .lit (.int .u8 13), .lit (.int .u8 23), .lit (.int .u8 21), .lit (.int .u8 19), .lit (.int .u8 16), .lit (.int .u8 7), .lit (.int .u8 26), .lit (.int .u8 12), .lit (.int .u8 18), .lit (.int .u8 6), .lit (.int .u8 11), .lit (.int .u8 5), .lit (.int .u8 10), .lit (.int .u8 9)]
def laid_math_bits_deBruijn64tab {H : Type} : DataW H := .agg [.lit (.int .u8 0), .lit (.int .u8 1), .lit (.int .u8 56), .lit (.int .u8 2), .lit (.int .u8 57), .lit (.int .u8 49), .lit (.int .u8 28), .lit (.int .u8 3), .lit (.int .u8 61), .lit (.int .u8 58), .lit (.int .u8 42), .lit (.int .u8 50), .lit (.int .u8 38), .lit (.int .u8 29), .lit (.int .u8 17), .lit (.int .u8 4), .lit (.int .u8 62), .lit (.int .u8 47), .lit (.int .u8 59), .lit (.int .u8 36), .lit (.int .u8 45), .lit (.int .u8 43), .lit (.int .u8 51), .lit (.int .u8 22), .lit (.int .u8 53), .lit (.int .u8 39), .lit (.int .u8 33), .lit (.int .u8 30), .lit (.int .u8 24), .lit (.int .u8 18), .lit (.int .u8 12), .lit (.int .u8 5), .lit (.int .u8 63), .lit (.int .u8 55), .lit (.int .u8 48), .lit (.int .u8 27), .lit (.int .u8 60), .lit (.int .u8 41), .lit (.int .u8 37), .lit (.int .u8 16), .lit (.int .u8 46), .lit (.int .u8 35), .lit (.int .u8 44), .lit (.int .u8 21), .lit (.int .u8 52), .lit (.int .u8 32), .lit (.int .u8 23), .lit (.int .u8 11), .lit (.int .u8 54), .lit (.int .u8 26), .lit (.int .u8 40), .lit (.int .u8 15), .lit (.int .u8 34), .lit (.int .u8 20), .lit (.int .u8 31), .lit (.int .u8 10), .lit (.int .u8 25), .lit (.int .u8 14), .lit (.int .u8 19), .lit (.int .u8 9), .lit (.int .u8 13), .lit (.int .u8 8), .lit (.int .u8 7), .lit (.int .u8 6)]
def laid_internal_strconv_uint64pow10 {H : Type} : DataW H := .agg [.lit (.int .u64 1), .lit (.int .u64 10), .lit (.int .u64 100), .lit (.int .u64 1000), .lit (.int .u64 10000), .lit (.int .u64 100000), .lit (.int .u64 1000000), .lit (.int .u64 10000000), .lit (.int .u64 100000000), .lit (.int .u64 1000000000), .lit (.int .u64 10000000000), .lit (.int .u64 100000000000), .lit (.int .u64 1000000000000), .lit (.int .u64 10000000000000), .lit (.int .u64 100000000000000), .lit (.int .u64 1000000000000000), .lit (.int .u64 10000000000000000), .lit (.int .u64 100000000000000000), .lit (.int .u64 1000000000000000000), .lit (.int .u64 10000000000000000000)]
def laid_unicode_utf8_acceptRanges {H : Type} : DataW H := .agg [.agg [.lit (.int .u8 128), .lit (.int .u8 191)], .agg [.lit (.int .u8 160), .lit (.int .u8 191)], .agg [.lit (.int .u8 128), .lit (.int .u8 159)], .agg [.lit (.int .u8 144), .lit (.int .u8 191)], .agg [.lit (.int .u8 128), .lit (.int .u8 143)], .agg [.lit (.int .u8 0), .lit (.int .u8 0)], .agg [.lit (.int .u8 0), .lit (.int .u8 0)], .agg [.lit (.int .u8 0), .lit (.int .u8 0)], .agg [.lit (.int .u8 0), .lit (.int .u8 0)], .agg [.lit (.int .u8 0), .lit (.int .u8 0)], .agg [.lit (.int .u8 0), .lit (.int .u8 0)], .agg [.lit (.int .u8 0), .lit (.int .u8 0)], .agg [.lit (.int .u8 0), .lit (.int .u8 0)], .agg [.lit (.int .u8 0), .lit (.int .u8 0)], .agg [.lit (.int .u8 0), .lit (.int .u8 0)], .agg [.lit (.int .u8 0), .lit (.int .u8 0)]]
/-- One of Go's own tables, pinned by name: the form's constant. -/
def laid_unicode_utf8_first : DataW Unit := Go.Pinned.utf8First

/-- 'laws.FnAnsweredBy': WHATEVER THE INPUT: true; the input reads as it did. -/
def fnAnsweredBySpec : ChangeSpec := { name := "fnAnsweredBy", fn := fun _ => fun
  | [d] => { results := [.lit (.bool true)], args := [d] }
  | _ => none }
def fnAnsweredByRow : OpenClaim := { program := "ytfhefngpeknhlaadoor", sum := "7b2defbb56b67bdadd85f1b811dcb1332dd92abbbdeb00c89669cb260f057a85", func := "loop.example/sumschool/laws.FnAnsweredBy", spec := "fnAnsweredBy", inPlace := ["internal/bytealg.abigen_runtime_cmpstring", "internal/abi.NoEscape", "internal/bytealg.IndexByteString", "internal/bytealg.IndexString"], unfollowed := true, recurses := true, named := ["internal/strconv.uint64pow10", "math/bits.deBruijn32tab", "math/bits.deBruijn64tab", "unicode/utf8.first", "unicode/utf8.acceptRanges", "internal/bytealg.MaxLen"], apart := false, laid := [("math/bits.deBruijn32tab", laid_math_bits_deBruijn32tab), ("math/bits.deBruijn64tab", laid_math_bits_deBruijn64tab), ("internal/strconv.uint64pow10", laid_internal_strconv_uint64pow10), ("unicode/utf8.acceptRanges", laid_unicode_utf8_acceptRanges), ("unicode/utf8.first", laid_unicode_utf8_first)] }
def FnAnsweredBySaid : Prop := fnAnsweredByRow.holds Tryd.pinned (OpenSpec.ofChange fnAnsweredBySpec)

/-- ITS FALSE NEIGHBOUR: 'it returns false'. Refute it at one input. -/
def fnAnsweredByWrong : ChangeSpec := { name := "fnAnsweredBy", fn := fun _ => fun
  | [d] => { results := [.lit (.bool false)], args := [d] }
  | _ => none }
def FnAnsweredByWrongFalsely : Prop := fnAnsweredByRow.holds Tryd.pinned (OpenSpec.ofChange fnAnsweredByWrong)

/-- 'laws.FnWaysFor': WHATEVER THE INPUT: true; the input reads as it did. -/
def fnWaysForSpec : ChangeSpec := { name := "fnWaysFor", fn := fun _ => fun
  | [d] => { results := [.lit (.bool true)], args := [d] }
  | _ => none }
def fnWaysForRow : OpenClaim := { program := "ytfhefngpeknhlaadoor", sum := "7b2defbb56b67bdadd85f1b811dcb1332dd92abbbdeb00c89669cb260f057a85", func := "loop.example/sumschool/laws.FnWaysFor", spec := "fnWaysFor", inPlace := ["internal/bytealg.abigen_runtime_cmpstring", "internal/abi.NoEscape", "internal/bytealg.IndexByteString", "internal/bytealg.IndexString"], unfollowed := true, recurses := true, named := ["internal/strconv.uint64pow10", "math/bits.deBruijn32tab", "math/bits.deBruijn64tab", "unicode/utf8.first", "unicode/utf8.acceptRanges", "internal/bytealg.MaxLen"], apart := false, laid := [("math/bits.deBruijn32tab", laid_math_bits_deBruijn32tab), ("math/bits.deBruijn64tab", laid_math_bits_deBruijn64tab), ("internal/strconv.uint64pow10", laid_internal_strconv_uint64pow10), ("unicode/utf8.acceptRanges", laid_unicode_utf8_acceptRanges), ("unicode/utf8.first", laid_unicode_utf8_first)] }
def FnWaysForSaid : Prop := fnWaysForRow.holds Tryd.pinned (OpenSpec.ofChange fnWaysForSpec)

/-- ITS FALSE NEIGHBOUR: 'it returns false'. Refute it at one input. -/
def fnWaysForWrong : ChangeSpec := { name := "fnWaysFor", fn := fun _ => fun
  | [d] => { results := [.lit (.bool false)], args := [d] }
  | _ => none }
def FnWaysForWrongFalsely : Prop := fnWaysForRow.holds Tryd.pinned (OpenSpec.ofChange fnWaysForWrong)

/-- 'laws.FnExactAnsweredBy': WHATEVER THE INPUT: true; the input reads as it did. -/
def fnExactAnsweredBySpec : ChangeSpec := { name := "fnExactAnsweredBy", fn := fun _ => fun
  | [d1, d2] => { results := [.lit (.bool true)], args := [d1, d2] }
  | _ => none }
def fnExactAnsweredByRow : OpenClaim := { program := "ytfhefngpeknhlaadoor", sum := "7b2defbb56b67bdadd85f1b811dcb1332dd92abbbdeb00c89669cb260f057a85", func := "loop.example/sumschool/laws.FnExactAnsweredBy", spec := "fnExactAnsweredBy", inPlace := ["internal/bytealg.abigen_runtime_cmpstring", "internal/abi.NoEscape", "internal/bytealg.IndexByteString", "internal/bytealg.IndexString"], unfollowed := true, recurses := true, named := ["internal/strconv.uint64pow10", "math/bits.deBruijn32tab", "math/bits.deBruijn64tab", "unicode/utf8.first", "unicode/utf8.acceptRanges", "internal/bytealg.MaxLen"], apart := false, laid := [("math/bits.deBruijn32tab", laid_math_bits_deBruijn32tab), ("math/bits.deBruijn64tab", laid_math_bits_deBruijn64tab), ("internal/strconv.uint64pow10", laid_internal_strconv_uint64pow10), ("unicode/utf8.acceptRanges", laid_unicode_utf8_acceptRanges), ("unicode/utf8.first", laid_unicode_utf8_first)] }
def FnExactAnsweredBySaid : Prop := fnExactAnsweredByRow.holds Tryd.pinned (OpenSpec.ofChange fnExactAnsweredBySpec)

/-- ITS FALSE NEIGHBOUR: 'it returns false'. Refute it at one input. -/
def fnExactAnsweredByWrong : ChangeSpec := { name := "fnExactAnsweredBy", fn := fun _ => fun
  | [d1, d2] => { results := [.lit (.bool false)], args := [d1, d2] }
  | _ => none }
def FnExactAnsweredByWrongFalsely : Prop := fnExactAnsweredByRow.holds Tryd.pinned (OpenSpec.ofChange fnExactAnsweredByWrong)

/-- 'laws.FnSilentIn': WHATEVER THE INPUT: true; the input reads as it did. -/
def fnSilentInSpec : ChangeSpec := { name := "fnSilentIn", fn := fun _ => fun
  | [d] => { results := [.lit (.bool true)], args := [d] }
  | _ => none }
def fnSilentInRow : OpenClaim := { program := "ytfhefngpeknhlaadoor", sum := "7b2defbb56b67bdadd85f1b811dcb1332dd92abbbdeb00c89669cb260f057a85", func := "loop.example/sumschool/laws.FnSilentIn", spec := "fnSilentIn", inPlace := ["internal/bytealg.abigen_runtime_cmpstring", "internal/abi.NoEscape", "internal/bytealg.IndexByteString", "internal/bytealg.IndexString"], unfollowed := true, recurses := true, named := ["internal/strconv.uint64pow10", "math/bits.deBruijn32tab", "math/bits.deBruijn64tab", "unicode/utf8.first", "unicode/utf8.acceptRanges", "internal/bytealg.MaxLen"], apart := false, laid := [("math/bits.deBruijn32tab", laid_math_bits_deBruijn32tab), ("math/bits.deBruijn64tab", laid_math_bits_deBruijn64tab), ("internal/strconv.uint64pow10", laid_internal_strconv_uint64pow10), ("unicode/utf8.acceptRanges", laid_unicode_utf8_acceptRanges), ("unicode/utf8.first", laid_unicode_utf8_first)] }
def FnSilentInSaid : Prop := fnSilentInRow.holds Tryd.pinned (OpenSpec.ofChange fnSilentInSpec)

/-- ITS FALSE NEIGHBOUR: 'it returns false'. Refute it at one input. -/
def fnSilentInWrong : ChangeSpec := { name := "fnSilentIn", fn := fun _ => fun
  | [d] => { results := [.lit (.bool false)], args := [d] }
  | _ => none }
def FnSilentInWrongFalsely : Prop := fnSilentInRow.holds Tryd.pinned (OpenSpec.ofChange fnSilentInWrong)

/-- 'laws.FnExactWaysFor': WHATEVER THE INPUT: true; the input reads as it did. -/
def fnExactWaysForSpec : ChangeSpec := { name := "fnExactWaysFor", fn := fun _ => fun
  | [d] => { results := [.lit (.bool true)], args := [d] }
  | _ => none }
def fnExactWaysForRow : OpenClaim := { program := "ytfhefngpeknhlaadoor", sum := "7b2defbb56b67bdadd85f1b811dcb1332dd92abbbdeb00c89669cb260f057a85", func := "loop.example/sumschool/laws.FnExactWaysFor", spec := "fnExactWaysFor", inPlace := ["internal/bytealg.abigen_runtime_cmpstring", "internal/abi.NoEscape", "internal/bytealg.IndexByteString", "internal/bytealg.IndexString"], unfollowed := true, recurses := true, named := ["internal/strconv.uint64pow10", "math/bits.deBruijn32tab", "math/bits.deBruijn64tab", "unicode/utf8.first", "unicode/utf8.acceptRanges", "internal/bytealg.MaxLen"], apart := false, laid := [("math/bits.deBruijn32tab", laid_math_bits_deBruijn32tab), ("math/bits.deBruijn64tab", laid_math_bits_deBruijn64tab), ("internal/strconv.uint64pow10", laid_internal_strconv_uint64pow10), ("unicode/utf8.acceptRanges", laid_unicode_utf8_acceptRanges), ("unicode/utf8.first", laid_unicode_utf8_first)] }
def FnExactWaysForSaid : Prop := fnExactWaysForRow.holds Tryd.pinned (OpenSpec.ofChange fnExactWaysForSpec)

/-- ITS FALSE NEIGHBOUR: 'it returns false'. Refute it at one input. -/
def fnExactWaysForWrong : ChangeSpec := { name := "fnExactWaysFor", fn := fun _ => fun
  | [d] => { results := [.lit (.bool false)], args := [d] }
  | _ => none }
def FnExactWaysForWrongFalsely : Prop := fnExactWaysForRow.holds Tryd.pinned (OpenSpec.ofChange fnExactWaysForWrong)

/-- 'laws.FnApartBy': WHATEVER THE INPUT: true; the input reads as it did. -/
def fnApartBySpec : ChangeSpec := { name := "fnApartBy", fn := fun _ => fun
  | [d] => { results := [.lit (.bool true)], args := [d] }
  | _ => none }
def fnApartByRow : OpenClaim := { program := "ytfhefngpeknhlaadoor", sum := "7b2defbb56b67bdadd85f1b811dcb1332dd92abbbdeb00c89669cb260f057a85", func := "loop.example/sumschool/laws.FnApartBy", spec := "fnApartBy", inPlace := ["internal/bytealg.abigen_runtime_cmpstring", "internal/abi.NoEscape", "internal/bytealg.IndexByteString", "internal/bytealg.IndexString", "internal/bytealg.MakeNoZero"], unfollowed := true, recurses := true, named := ["internal/strconv.uint64pow10", "math/bits.deBruijn32tab", "math/bits.deBruijn64tab", "unicode/utf8.first", "unicode/utf8.acceptRanges", "internal/bytealg.MaxLen"], apart := false, laid := [("math/bits.deBruijn32tab", laid_math_bits_deBruijn32tab), ("math/bits.deBruijn64tab", laid_math_bits_deBruijn64tab), ("internal/strconv.uint64pow10", laid_internal_strconv_uint64pow10), ("unicode/utf8.acceptRanges", laid_unicode_utf8_acceptRanges), ("unicode/utf8.first", laid_unicode_utf8_first)] }
def FnApartBySaid : Prop := fnApartByRow.holds Tryd.pinned (OpenSpec.ofChange fnApartBySpec)

/-- ITS FALSE NEIGHBOUR: 'it returns false'. Refute it at one input. -/
def fnApartByWrong : ChangeSpec := { name := "fnApartBy", fn := fun _ => fun
  | [d] => { results := [.lit (.bool false)], args := [d] }
  | _ => none }
def FnApartByWrongFalsely : Prop := fnApartByRow.holds Tryd.pinned (OpenSpec.ofChange fnApartByWrong)

/-- 'laws.FnExactApartBy': WHATEVER THE INPUT: true; the input reads as it did. -/
def fnExactApartBySpec : ChangeSpec := { name := "fnExactApartBy", fn := fun _ => fun
  | [d] => { results := [.lit (.bool true)], args := [d] }
  | _ => none }
def fnExactApartByRow : OpenClaim := { program := "ytfhefngpeknhlaadoor", sum := "7b2defbb56b67bdadd85f1b811dcb1332dd92abbbdeb00c89669cb260f057a85", func := "loop.example/sumschool/laws.FnExactApartBy", spec := "fnExactApartBy", inPlace := ["internal/bytealg.abigen_runtime_cmpstring", "internal/abi.NoEscape", "internal/bytealg.IndexByteString", "internal/bytealg.IndexString", "internal/bytealg.MakeNoZero"], unfollowed := true, recurses := true, named := ["internal/strconv.uint64pow10", "math/bits.deBruijn32tab", "math/bits.deBruijn64tab", "unicode/utf8.first", "unicode/utf8.acceptRanges", "internal/bytealg.MaxLen"], apart := false, laid := [("math/bits.deBruijn32tab", laid_math_bits_deBruijn32tab), ("math/bits.deBruijn64tab", laid_math_bits_deBruijn64tab), ("internal/strconv.uint64pow10", laid_internal_strconv_uint64pow10), ("unicode/utf8.acceptRanges", laid_unicode_utf8_acceptRanges), ("unicode/utf8.first", laid_unicode_utf8_first)] }
def FnExactApartBySaid : Prop := fnExactApartByRow.holds Tryd.pinned (OpenSpec.ofChange fnExactApartBySpec)

/-- ITS FALSE NEIGHBOUR: 'it returns false'. Refute it at one input. -/
def fnExactApartByWrong : ChangeSpec := { name := "fnExactApartBy", fn := fun _ => fun
  | [d] => { results := [.lit (.bool false)], args := [d] }
  | _ => none }
def FnExactApartByWrongFalsely : Prop := fnExactApartByRow.holds Tryd.pinned (OpenSpec.ofChange fnExactApartByWrong)

/-- 'laws.FnScoreOf': WHATEVER THE INPUT: true; the input reads as it did. -/
def fnScoreOfSpec : ChangeSpec := { name := "fnScoreOf", fn := fun _ => fun
  | [d] => { results := [.lit (.bool true)], args := [d] }
  | _ => none }
def fnScoreOfRow : OpenClaim := { program := "ytfhefngpeknhlaadoor", sum := "7b2defbb56b67bdadd85f1b811dcb1332dd92abbbdeb00c89669cb260f057a85", func := "loop.example/sumschool/laws.FnScoreOf", spec := "fnScoreOf", inPlace := ["internal/bytealg.abigen_runtime_cmpstring", "internal/abi.NoEscape", "internal/bytealg.IndexByteString", "internal/bytealg.IndexString"], unfollowed := true, recurses := true, named := ["internal/strconv.uint64pow10", "math/bits.deBruijn32tab", "math/bits.deBruijn64tab", "unicode/utf8.first", "unicode/utf8.acceptRanges", "internal/bytealg.MaxLen"], apart := false, laid := [("math/bits.deBruijn32tab", laid_math_bits_deBruijn32tab), ("math/bits.deBruijn64tab", laid_math_bits_deBruijn64tab), ("internal/strconv.uint64pow10", laid_internal_strconv_uint64pow10), ("unicode/utf8.acceptRanges", laid_unicode_utf8_acceptRanges), ("unicode/utf8.first", laid_unicode_utf8_first)] }
def FnScoreOfSaid : Prop := fnScoreOfRow.holds Tryd.pinned (OpenSpec.ofChange fnScoreOfSpec)

/-- ITS FALSE NEIGHBOUR: 'it returns false'. Refute it at one input. -/
def fnScoreOfWrong : ChangeSpec := { name := "fnScoreOf", fn := fun _ => fun
  | [d] => { results := [.lit (.bool false)], args := [d] }
  | _ => none }
def FnScoreOfWrongFalsely : Prop := fnScoreOfRow.holds Tryd.pinned (OpenSpec.ofChange fnScoreOfWrong)

/-- 'laws.FnExactSimplestFor': WHATEVER THE INPUT: true; the input reads as it did. -/
def fnExactSimplestForSpec : ChangeSpec := { name := "fnExactSimplestFor", fn := fun _ => fun
  | [d] => { results := [.lit (.bool true)], args := [d] }
  | _ => none }
def fnExactSimplestForRow : OpenClaim := { program := "ytfhefngpeknhlaadoor", sum := "7b2defbb56b67bdadd85f1b811dcb1332dd92abbbdeb00c89669cb260f057a85", func := "loop.example/sumschool/laws.FnExactSimplestFor", spec := "fnExactSimplestFor", inPlace := ["internal/bytealg.abigen_runtime_cmpstring", "internal/abi.NoEscape", "internal/bytealg.IndexByteString", "internal/bytealg.IndexString"], unfollowed := true, recurses := true, named := ["internal/strconv.uint64pow10", "math/bits.deBruijn32tab", "math/bits.deBruijn64tab", "unicode/utf8.first", "unicode/utf8.acceptRanges", "internal/bytealg.MaxLen"], apart := false, laid := [("math/bits.deBruijn32tab", laid_math_bits_deBruijn32tab), ("math/bits.deBruijn64tab", laid_math_bits_deBruijn64tab), ("internal/strconv.uint64pow10", laid_internal_strconv_uint64pow10), ("unicode/utf8.acceptRanges", laid_unicode_utf8_acceptRanges), ("unicode/utf8.first", laid_unicode_utf8_first)] }
def FnExactSimplestForSaid : Prop := fnExactSimplestForRow.holds Tryd.pinned (OpenSpec.ofChange fnExactSimplestForSpec)

/-- ITS FALSE NEIGHBOUR: 'it returns false'. Refute it at one input. -/
def fnExactSimplestForWrong : ChangeSpec := { name := "fnExactSimplestFor", fn := fun _ => fun
  | [d] => { results := [.lit (.bool false)], args := [d] }
  | _ => none }
def FnExactSimplestForWrongFalsely : Prop := fnExactSimplestForRow.holds Tryd.pinned (OpenSpec.ofChange fnExactSimplestForWrong)

/-- 'laws.FnSimplestFor': WHATEVER THE INPUT: true; the input reads as it did. -/
def fnSimplestForSpec : ChangeSpec := { name := "fnSimplestFor", fn := fun _ => fun
  | [d] => { results := [.lit (.bool true)], args := [d] }
  | _ => none }
def fnSimplestForRow : OpenClaim := { program := "ytfhefngpeknhlaadoor", sum := "7b2defbb56b67bdadd85f1b811dcb1332dd92abbbdeb00c89669cb260f057a85", func := "loop.example/sumschool/laws.FnSimplestFor", spec := "fnSimplestFor", inPlace := ["internal/bytealg.abigen_runtime_cmpstring", "internal/abi.NoEscape", "internal/bytealg.IndexByteString", "internal/bytealg.IndexString"], unfollowed := true, recurses := true, named := ["internal/strconv.uint64pow10", "math/bits.deBruijn32tab", "math/bits.deBruijn64tab", "unicode/utf8.first", "unicode/utf8.acceptRanges", "internal/bytealg.MaxLen"], apart := false, laid := [("math/bits.deBruijn32tab", laid_math_bits_deBruijn32tab), ("math/bits.deBruijn64tab", laid_math_bits_deBruijn64tab), ("internal/strconv.uint64pow10", laid_internal_strconv_uint64pow10), ("unicode/utf8.acceptRanges", laid_unicode_utf8_acceptRanges), ("unicode/utf8.first", laid_unicode_utf8_first)] }
def FnSimplestForSaid : Prop := fnSimplestForRow.holds Tryd.pinned (OpenSpec.ofChange fnSimplestForSpec)

/-- ITS FALSE NEIGHBOUR: 'it returns false'. Refute it at one input. -/
def fnSimplestForWrong : ChangeSpec := { name := "fnSimplestFor", fn := fun _ => fun
  | [d] => { results := [.lit (.bool false)], args := [d] }
  | _ => none }
def FnSimplestForWrongFalsely : Prop := fnSimplestForRow.holds Tryd.pinned (OpenSpec.ofChange fnSimplestForWrong)

/-- 'laws.FnExactNextTest': WHATEVER THE INPUT: true; the input reads as it did. -/
def fnExactNextTestSpec : ChangeSpec := { name := "fnExactNextTest", fn := fun _ => fun
  | [d1, d2] => { results := [.lit (.bool true)], args := [d1, d2] }
  | _ => none }
def fnExactNextTestRow : OpenClaim := { program := "ytfhefngpeknhlaadoor", sum := "7b2defbb56b67bdadd85f1b811dcb1332dd92abbbdeb00c89669cb260f057a85", func := "loop.example/sumschool/laws.FnExactNextTest", spec := "fnExactNextTest", inPlace := ["internal/bytealg.abigen_runtime_cmpstring", "internal/abi.NoEscape", "internal/bytealg.IndexByteString", "internal/bytealg.IndexString", "internal/bytealg.MakeNoZero"], unfollowed := true, recurses := true, named := ["internal/strconv.uint64pow10", "math/bits.deBruijn32tab", "math/bits.deBruijn64tab", "unicode/utf8.first", "unicode/utf8.acceptRanges", "internal/bytealg.MaxLen"], apart := false, laid := [("math/bits.deBruijn32tab", laid_math_bits_deBruijn32tab), ("math/bits.deBruijn64tab", laid_math_bits_deBruijn64tab), ("internal/strconv.uint64pow10", laid_internal_strconv_uint64pow10), ("unicode/utf8.acceptRanges", laid_unicode_utf8_acceptRanges), ("unicode/utf8.first", laid_unicode_utf8_first)] }
def FnExactNextTestSaid : Prop := fnExactNextTestRow.holds Tryd.pinned (OpenSpec.ofChange fnExactNextTestSpec)

/-- ITS FALSE NEIGHBOUR: 'it returns false'. Refute it at one input. -/
def fnExactNextTestWrong : ChangeSpec := { name := "fnExactNextTest", fn := fun _ => fun
  | [d1, d2] => { results := [.lit (.bool false)], args := [d1, d2] }
  | _ => none }
def FnExactNextTestWrongFalsely : Prop := fnExactNextTestRow.holds Tryd.pinned (OpenSpec.ofChange fnExactNextTestWrong)

/-- 'laws.FnNextTest': WHATEVER THE INPUT: true; the input reads as it did. -/
def fnNextTestSpec : ChangeSpec := { name := "fnNextTest", fn := fun _ => fun
  | [d] => { results := [.lit (.bool true)], args := [d] }
  | _ => none }
def fnNextTestRow : OpenClaim := { program := "ytfhefngpeknhlaadoor", sum := "7b2defbb56b67bdadd85f1b811dcb1332dd92abbbdeb00c89669cb260f057a85", func := "loop.example/sumschool/laws.FnNextTest", spec := "fnNextTest", inPlace := ["internal/bytealg.abigen_runtime_cmpstring", "internal/abi.NoEscape", "internal/bytealg.IndexByteString", "internal/bytealg.IndexString", "internal/bytealg.MakeNoZero"], unfollowed := true, recurses := true, named := ["internal/strconv.uint64pow10", "math/bits.deBruijn32tab", "math/bits.deBruijn64tab", "unicode/utf8.first", "unicode/utf8.acceptRanges", "internal/bytealg.MaxLen"], apart := false, laid := [("math/bits.deBruijn32tab", laid_math_bits_deBruijn32tab), ("math/bits.deBruijn64tab", laid_math_bits_deBruijn64tab), ("internal/strconv.uint64pow10", laid_internal_strconv_uint64pow10), ("unicode/utf8.acceptRanges", laid_unicode_utf8_acceptRanges), ("unicode/utf8.first", laid_unicode_utf8_first)] }
def FnNextTestSaid : Prop := fnNextTestRow.holds Tryd.pinned (OpenSpec.ofChange fnNextTestSpec)

/-- ITS FALSE NEIGHBOUR: 'it returns false'. Refute it at one input. -/
def fnNextTestWrong : ChangeSpec := { name := "fnNextTest", fn := fun _ => fun
  | [d] => { results := [.lit (.bool false)], args := [d] }
  | _ => none }
def FnNextTestWrongFalsely : Prop := fnNextTestRow.holds Tryd.pinned (OpenSpec.ofChange fnNextTestWrong)

/- THE SECOND FORM. 'bulk': how many values and letters a reading holds, each counted each time it is reached (what is shared counts as often as it is met; a slice's spare places count too). A statement '..UptoSaid' is the law's where the arguments, and the package variables that the reading takes, are together of bulk at most 1048576: NARROWER than '..Said'. Prove '..Said' where nothing that the law and all that it calls make is longer than what came in: it says more and counts as full. Else prove '..UptoSaid'. A law counts once. -/
mutual
def uptoBulk {H : Type} : DataW H → Nat
  | .lit (.string bytes) => bytes.length + 1
  | .lit _ => 1
  | .nil => 1
  | .ptr d => uptoBulk d + 1
  | .slice elems spare => uptoBulkAll elems + uptoBulkAll spare + 1
  | .agg parts => uptoBulkAll parts + 1
  | .iface _ d => uptoBulk d + 1
  | .map entries => uptoBulkEntries entries + 1
  | .held _ => 1
def uptoBulkAll {H : Type} : List (DataW H) → Nat
  | [] => 0
  | d :: r => uptoBulk d + uptoBulkAll r
def uptoBulkEntries {H : Type} : List (Lit × DataW H) → Nat
  | [] => 0
  | x :: r => uptoBulkEntry x + uptoBulkEntries r
def uptoBulkEntry {H : Type} : Lit × DataW H → Nat
  | (.string bytes, d) => bytes.length + uptoBulk d + 1
  | (_, d) => uptoBulk d + 1
 end
def uptoSmall : (H : Type) → List (DataW H) → Bool := fun _ ds => decide (uptoBulkAll ds ≤ 1048576)
def OpenSpec.upto (s : _root_.Go.ChangeSpec) : _root_.Go.OpenSpec := { _root_.Go.OpenSpec.ofChange s with cond := some uptoSmall }

/-- 'laws.FnAnsweredBy', WHERE WHAT IT READS IS OF BULK AT MOST 1048576: true; the input reads as it did. -/
def fnAnsweredByUptoRow : OpenClaim := { program := "ytfhefngpeknhlaadoor", sum := "7b2defbb56b67bdadd85f1b811dcb1332dd92abbbdeb00c89669cb260f057a85", func := "loop.example/sumschool/laws.FnAnsweredBy", spec := "fnAnsweredBy", inPlace := ["internal/bytealg.abigen_runtime_cmpstring", "internal/abi.NoEscape", "internal/bytealg.IndexByteString", "internal/bytealg.IndexString"], unfollowed := true, recurses := true, named := ["internal/strconv.uint64pow10", "math/bits.deBruijn32tab", "math/bits.deBruijn64tab", "unicode/utf8.first", "unicode/utf8.acceptRanges", "internal/bytealg.MaxLen"], apart := false, laid := [("math/bits.deBruijn32tab", laid_math_bits_deBruijn32tab), ("math/bits.deBruijn64tab", laid_math_bits_deBruijn64tab), ("internal/strconv.uint64pow10", laid_internal_strconv_uint64pow10), ("unicode/utf8.acceptRanges", laid_unicode_utf8_acceptRanges), ("unicode/utf8.first", laid_unicode_utf8_first)], narrowed := true }
def FnAnsweredByUptoSaid : Prop := fnAnsweredByUptoRow.holds Tryd.pinned (OpenSpec.upto fnAnsweredBySpec)

/-- 'laws.FnWaysFor', WHERE WHAT IT READS IS OF BULK AT MOST 1048576: true; the input reads as it did. -/
def fnWaysForUptoRow : OpenClaim := { program := "ytfhefngpeknhlaadoor", sum := "7b2defbb56b67bdadd85f1b811dcb1332dd92abbbdeb00c89669cb260f057a85", func := "loop.example/sumschool/laws.FnWaysFor", spec := "fnWaysFor", inPlace := ["internal/bytealg.abigen_runtime_cmpstring", "internal/abi.NoEscape", "internal/bytealg.IndexByteString", "internal/bytealg.IndexString"], unfollowed := true, recurses := true, named := ["internal/strconv.uint64pow10", "math/bits.deBruijn32tab", "math/bits.deBruijn64tab", "unicode/utf8.first", "unicode/utf8.acceptRanges", "internal/bytealg.MaxLen"], apart := false, laid := [("math/bits.deBruijn32tab", laid_math_bits_deBruijn32tab), ("math/bits.deBruijn64tab", laid_math_bits_deBruijn64tab), ("internal/strconv.uint64pow10", laid_internal_strconv_uint64pow10), ("unicode/utf8.acceptRanges", laid_unicode_utf8_acceptRanges), ("unicode/utf8.first", laid_unicode_utf8_first)], narrowed := true }
def FnWaysForUptoSaid : Prop := fnWaysForUptoRow.holds Tryd.pinned (OpenSpec.upto fnWaysForSpec)

/-- 'laws.FnExactAnsweredBy', WHERE WHAT IT READS IS OF BULK AT MOST 1048576: true; the input reads as it did. -/
def fnExactAnsweredByUptoRow : OpenClaim := { program := "ytfhefngpeknhlaadoor", sum := "7b2defbb56b67bdadd85f1b811dcb1332dd92abbbdeb00c89669cb260f057a85", func := "loop.example/sumschool/laws.FnExactAnsweredBy", spec := "fnExactAnsweredBy", inPlace := ["internal/bytealg.abigen_runtime_cmpstring", "internal/abi.NoEscape", "internal/bytealg.IndexByteString", "internal/bytealg.IndexString"], unfollowed := true, recurses := true, named := ["internal/strconv.uint64pow10", "math/bits.deBruijn32tab", "math/bits.deBruijn64tab", "unicode/utf8.first", "unicode/utf8.acceptRanges", "internal/bytealg.MaxLen"], apart := false, laid := [("math/bits.deBruijn32tab", laid_math_bits_deBruijn32tab), ("math/bits.deBruijn64tab", laid_math_bits_deBruijn64tab), ("internal/strconv.uint64pow10", laid_internal_strconv_uint64pow10), ("unicode/utf8.acceptRanges", laid_unicode_utf8_acceptRanges), ("unicode/utf8.first", laid_unicode_utf8_first)], narrowed := true }
def FnExactAnsweredByUptoSaid : Prop := fnExactAnsweredByUptoRow.holds Tryd.pinned (OpenSpec.upto fnExactAnsweredBySpec)

/-- 'laws.FnSilentIn', WHERE WHAT IT READS IS OF BULK AT MOST 1048576: true; the input reads as it did. -/
def fnSilentInUptoRow : OpenClaim := { program := "ytfhefngpeknhlaadoor", sum := "7b2defbb56b67bdadd85f1b811dcb1332dd92abbbdeb00c89669cb260f057a85", func := "loop.example/sumschool/laws.FnSilentIn", spec := "fnSilentIn", inPlace := ["internal/bytealg.abigen_runtime_cmpstring", "internal/abi.NoEscape", "internal/bytealg.IndexByteString", "internal/bytealg.IndexString"], unfollowed := true, recurses := true, named := ["internal/strconv.uint64pow10", "math/bits.deBruijn32tab", "math/bits.deBruijn64tab", "unicode/utf8.first", "unicode/utf8.acceptRanges", "internal/bytealg.MaxLen"], apart := false, laid := [("math/bits.deBruijn32tab", laid_math_bits_deBruijn32tab), ("math/bits.deBruijn64tab", laid_math_bits_deBruijn64tab), ("internal/strconv.uint64pow10", laid_internal_strconv_uint64pow10), ("unicode/utf8.acceptRanges", laid_unicode_utf8_acceptRanges), ("unicode/utf8.first", laid_unicode_utf8_first)], narrowed := true }
def FnSilentInUptoSaid : Prop := fnSilentInUptoRow.holds Tryd.pinned (OpenSpec.upto fnSilentInSpec)

/-- 'laws.FnExactWaysFor', WHERE WHAT IT READS IS OF BULK AT MOST 1048576: true; the input reads as it did. -/
def fnExactWaysForUptoRow : OpenClaim := { program := "ytfhefngpeknhlaadoor", sum := "7b2defbb56b67bdadd85f1b811dcb1332dd92abbbdeb00c89669cb260f057a85", func := "loop.example/sumschool/laws.FnExactWaysFor", spec := "fnExactWaysFor", inPlace := ["internal/bytealg.abigen_runtime_cmpstring", "internal/abi.NoEscape", "internal/bytealg.IndexByteString", "internal/bytealg.IndexString"], unfollowed := true, recurses := true, named := ["internal/strconv.uint64pow10", "math/bits.deBruijn32tab", "math/bits.deBruijn64tab", "unicode/utf8.first", "unicode/utf8.acceptRanges", "internal/bytealg.MaxLen"], apart := false, laid := [("math/bits.deBruijn32tab", laid_math_bits_deBruijn32tab), ("math/bits.deBruijn64tab", laid_math_bits_deBruijn64tab), ("internal/strconv.uint64pow10", laid_internal_strconv_uint64pow10), ("unicode/utf8.acceptRanges", laid_unicode_utf8_acceptRanges), ("unicode/utf8.first", laid_unicode_utf8_first)], narrowed := true }
def FnExactWaysForUptoSaid : Prop := fnExactWaysForUptoRow.holds Tryd.pinned (OpenSpec.upto fnExactWaysForSpec)

/-- 'laws.FnApartBy', WHERE WHAT IT READS IS OF BULK AT MOST 1048576: true; the input reads as it did. -/
def fnApartByUptoRow : OpenClaim := { program := "ytfhefngpeknhlaadoor", sum := "7b2defbb56b67bdadd85f1b811dcb1332dd92abbbdeb00c89669cb260f057a85", func := "loop.example/sumschool/laws.FnApartBy", spec := "fnApartBy", inPlace := ["internal/bytealg.abigen_runtime_cmpstring", "internal/abi.NoEscape", "internal/bytealg.IndexByteString", "internal/bytealg.IndexString", "internal/bytealg.MakeNoZero"], unfollowed := true, recurses := true, named := ["internal/strconv.uint64pow10", "math/bits.deBruijn32tab", "math/bits.deBruijn64tab", "unicode/utf8.first", "unicode/utf8.acceptRanges", "internal/bytealg.MaxLen"], apart := false, laid := [("math/bits.deBruijn32tab", laid_math_bits_deBruijn32tab), ("math/bits.deBruijn64tab", laid_math_bits_deBruijn64tab), ("internal/strconv.uint64pow10", laid_internal_strconv_uint64pow10), ("unicode/utf8.acceptRanges", laid_unicode_utf8_acceptRanges), ("unicode/utf8.first", laid_unicode_utf8_first)], narrowed := true }
def FnApartByUptoSaid : Prop := fnApartByUptoRow.holds Tryd.pinned (OpenSpec.upto fnApartBySpec)

/-- 'laws.FnExactApartBy', WHERE WHAT IT READS IS OF BULK AT MOST 1048576: true; the input reads as it did. -/
def fnExactApartByUptoRow : OpenClaim := { program := "ytfhefngpeknhlaadoor", sum := "7b2defbb56b67bdadd85f1b811dcb1332dd92abbbdeb00c89669cb260f057a85", func := "loop.example/sumschool/laws.FnExactApartBy", spec := "fnExactApartBy", inPlace := ["internal/bytealg.abigen_runtime_cmpstring", "internal/abi.NoEscape", "internal/bytealg.IndexByteString", "internal/bytealg.IndexString", "internal/bytealg.MakeNoZero"], unfollowed := true, recurses := true, named := ["internal/strconv.uint64pow10", "math/bits.deBruijn32tab", "math/bits.deBruijn64tab", "unicode/utf8.first", "unicode/utf8.acceptRanges", "internal/bytealg.MaxLen"], apart := false, laid := [("math/bits.deBruijn32tab", laid_math_bits_deBruijn32tab), ("math/bits.deBruijn64tab", laid_math_bits_deBruijn64tab), ("internal/strconv.uint64pow10", laid_internal_strconv_uint64pow10), ("unicode/utf8.acceptRanges", laid_unicode_utf8_acceptRanges), ("unicode/utf8.first", laid_unicode_utf8_first)], narrowed := true }
def FnExactApartByUptoSaid : Prop := fnExactApartByUptoRow.holds Tryd.pinned (OpenSpec.upto fnExactApartBySpec)

/-- 'laws.FnScoreOf', WHERE WHAT IT READS IS OF BULK AT MOST 1048576: true; the input reads as it did. -/
def fnScoreOfUptoRow : OpenClaim := { program := "ytfhefngpeknhlaadoor", sum := "7b2defbb56b67bdadd85f1b811dcb1332dd92abbbdeb00c89669cb260f057a85", func := "loop.example/sumschool/laws.FnScoreOf", spec := "fnScoreOf", inPlace := ["internal/bytealg.abigen_runtime_cmpstring", "internal/abi.NoEscape", "internal/bytealg.IndexByteString", "internal/bytealg.IndexString"], unfollowed := true, recurses := true, named := ["internal/strconv.uint64pow10", "math/bits.deBruijn32tab", "math/bits.deBruijn64tab", "unicode/utf8.first", "unicode/utf8.acceptRanges", "internal/bytealg.MaxLen"], apart := false, laid := [("math/bits.deBruijn32tab", laid_math_bits_deBruijn32tab), ("math/bits.deBruijn64tab", laid_math_bits_deBruijn64tab), ("internal/strconv.uint64pow10", laid_internal_strconv_uint64pow10), ("unicode/utf8.acceptRanges", laid_unicode_utf8_acceptRanges), ("unicode/utf8.first", laid_unicode_utf8_first)], narrowed := true }
def FnScoreOfUptoSaid : Prop := fnScoreOfUptoRow.holds Tryd.pinned (OpenSpec.upto fnScoreOfSpec)

/-- 'laws.FnExactSimplestFor', WHERE WHAT IT READS IS OF BULK AT MOST 1048576: true; the input reads as it did. -/
def fnExactSimplestForUptoRow : OpenClaim := { program := "ytfhefngpeknhlaadoor", sum := "7b2defbb56b67bdadd85f1b811dcb1332dd92abbbdeb00c89669cb260f057a85", func := "loop.example/sumschool/laws.FnExactSimplestFor", spec := "fnExactSimplestFor", inPlace := ["internal/bytealg.abigen_runtime_cmpstring", "internal/abi.NoEscape", "internal/bytealg.IndexByteString", "internal/bytealg.IndexString"], unfollowed := true, recurses := true, named := ["internal/strconv.uint64pow10", "math/bits.deBruijn32tab", "math/bits.deBruijn64tab", "unicode/utf8.first", "unicode/utf8.acceptRanges", "internal/bytealg.MaxLen"], apart := false, laid := [("math/bits.deBruijn32tab", laid_math_bits_deBruijn32tab), ("math/bits.deBruijn64tab", laid_math_bits_deBruijn64tab), ("internal/strconv.uint64pow10", laid_internal_strconv_uint64pow10), ("unicode/utf8.acceptRanges", laid_unicode_utf8_acceptRanges), ("unicode/utf8.first", laid_unicode_utf8_first)], narrowed := true }
def FnExactSimplestForUptoSaid : Prop := fnExactSimplestForUptoRow.holds Tryd.pinned (OpenSpec.upto fnExactSimplestForSpec)

/-- 'laws.FnSimplestFor', WHERE WHAT IT READS IS OF BULK AT MOST 1048576: true; the input reads as it did. -/
def fnSimplestForUptoRow : OpenClaim := { program := "ytfhefngpeknhlaadoor", sum := "7b2defbb56b67bdadd85f1b811dcb1332dd92abbbdeb00c89669cb260f057a85", func := "loop.example/sumschool/laws.FnSimplestFor", spec := "fnSimplestFor", inPlace := ["internal/bytealg.abigen_runtime_cmpstring", "internal/abi.NoEscape", "internal/bytealg.IndexByteString", "internal/bytealg.IndexString"], unfollowed := true, recurses := true, named := ["internal/strconv.uint64pow10", "math/bits.deBruijn32tab", "math/bits.deBruijn64tab", "unicode/utf8.first", "unicode/utf8.acceptRanges", "internal/bytealg.MaxLen"], apart := false, laid := [("math/bits.deBruijn32tab", laid_math_bits_deBruijn32tab), ("math/bits.deBruijn64tab", laid_math_bits_deBruijn64tab), ("internal/strconv.uint64pow10", laid_internal_strconv_uint64pow10), ("unicode/utf8.acceptRanges", laid_unicode_utf8_acceptRanges), ("unicode/utf8.first", laid_unicode_utf8_first)], narrowed := true }
def FnSimplestForUptoSaid : Prop := fnSimplestForUptoRow.holds Tryd.pinned (OpenSpec.upto fnSimplestForSpec)

/-- 'laws.FnExactNextTest', WHERE WHAT IT READS IS OF BULK AT MOST 1048576: true; the input reads as it did. -/
def fnExactNextTestUptoRow : OpenClaim := { program := "ytfhefngpeknhlaadoor", sum := "7b2defbb56b67bdadd85f1b811dcb1332dd92abbbdeb00c89669cb260f057a85", func := "loop.example/sumschool/laws.FnExactNextTest", spec := "fnExactNextTest", inPlace := ["internal/bytealg.abigen_runtime_cmpstring", "internal/abi.NoEscape", "internal/bytealg.IndexByteString", "internal/bytealg.IndexString", "internal/bytealg.MakeNoZero"], unfollowed := true, recurses := true, named := ["internal/strconv.uint64pow10", "math/bits.deBruijn32tab", "math/bits.deBruijn64tab", "unicode/utf8.first", "unicode/utf8.acceptRanges", "internal/bytealg.MaxLen"], apart := false, laid := [("math/bits.deBruijn32tab", laid_math_bits_deBruijn32tab), ("math/bits.deBruijn64tab", laid_math_bits_deBruijn64tab), ("internal/strconv.uint64pow10", laid_internal_strconv_uint64pow10), ("unicode/utf8.acceptRanges", laid_unicode_utf8_acceptRanges), ("unicode/utf8.first", laid_unicode_utf8_first)], narrowed := true }
def FnExactNextTestUptoSaid : Prop := fnExactNextTestUptoRow.holds Tryd.pinned (OpenSpec.upto fnExactNextTestSpec)

/-- 'laws.FnNextTest', WHERE WHAT IT READS IS OF BULK AT MOST 1048576: true; the input reads as it did. -/
def fnNextTestUptoRow : OpenClaim := { program := "ytfhefngpeknhlaadoor", sum := "7b2defbb56b67bdadd85f1b811dcb1332dd92abbbdeb00c89669cb260f057a85", func := "loop.example/sumschool/laws.FnNextTest", spec := "fnNextTest", inPlace := ["internal/bytealg.abigen_runtime_cmpstring", "internal/abi.NoEscape", "internal/bytealg.IndexByteString", "internal/bytealg.IndexString", "internal/bytealg.MakeNoZero"], unfollowed := true, recurses := true, named := ["internal/strconv.uint64pow10", "math/bits.deBruijn32tab", "math/bits.deBruijn64tab", "unicode/utf8.first", "unicode/utf8.acceptRanges", "internal/bytealg.MaxLen"], apart := false, laid := [("math/bits.deBruijn32tab", laid_math_bits_deBruijn32tab), ("math/bits.deBruijn64tab", laid_math_bits_deBruijn64tab), ("internal/strconv.uint64pow10", laid_internal_strconv_uint64pow10), ("unicode/utf8.acceptRanges", laid_unicode_utf8_acceptRanges), ("unicode/utf8.first", laid_unicode_utf8_first)], narrowed := true }
def FnNextTestUptoSaid : Prop := fnNextTestUptoRow.holds Tryd.pinned (OpenSpec.upto fnNextTestSpec)

end Rows
end Go.Proofs.YtfhefngpeknhlaaDoor
