/-
  DERIVED. GIVEN WITH THE SEED: THE CARDS: each row of YtfhefngpeknhlaaDoorRows.lean that lists a variable, with what it lists TIED to the program's text (the seventh form; the later family's looks); each row that meets fmt, with fmt's text TOLD by the authors' own Lean function (tested against real Go, not proved from fmt's source: count such statements apart). THE CARD IS WHAT COUNTS. Prove the row's statement (the work); the ties are given (YtfhefngpeknhlaaDoorTie.lean); close each card by the builder's one call (the guide's Derived/Test/ToyasCard.lean, 'card_holds'). Laid BY PROGRAM, IN A SANDBOX (cutbox-door.mjs). By AI agents, Wed Nov 11 2026. No macro, syntax, notation, axiom, sorry.
-/
import Derived.Test.YtfhefngpeknhlaaDoorRows
import GoSem.ClaimSeven
namespace Go.Proofs.YtfhefngpeknhlaaDoor
namespace Rows

/-- THE TIED CARD OF 'laws.FnAnsweredBy'. -/
def fnAnsweredByCard : Claim7 := { stood := { row := fnAnsweredByRow, standIns := [], harness := (true, "c57dad55dc1160738f8df8fe8ba2adac0cd959d0ec5709cd506e82028f06740f"), looks := false }, kinds := [], alts := [], laidByText := true, laidKinds := [.data, .data, .data, .data, .pinned], laidTests := true, laidLooks := .later }
def FnAnsweredByCardSaid : Prop := Claim7.holds Tryd.pinned (.plain (OpenSpec.ofChange fnAnsweredBySpec)) fnAnsweredByCard

/-- THE TIED CARD OF 'laws.FnWaysFor'. -/
def fnWaysForCard : Claim7 := { stood := { row := fnWaysForRow, standIns := [], harness := (true, "c57dad55dc1160738f8df8fe8ba2adac0cd959d0ec5709cd506e82028f06740f"), looks := false }, kinds := [], alts := [], laidByText := true, laidKinds := [.data, .data, .data, .data, .pinned], laidTests := true, laidLooks := .later }
def FnWaysForCardSaid : Prop := Claim7.holds Tryd.pinned (.plain (OpenSpec.ofChange fnWaysForSpec)) fnWaysForCard

/-- THE TIED CARD OF 'laws.FnExactAnsweredBy'. -/
def fnExactAnsweredByCard : Claim7 := { stood := { row := fnExactAnsweredByRow, standIns := [], harness := (true, "c57dad55dc1160738f8df8fe8ba2adac0cd959d0ec5709cd506e82028f06740f"), looks := false }, kinds := [], alts := [], laidByText := true, laidKinds := [.data, .data, .data, .data, .pinned], laidTests := true, laidLooks := .later }
def FnExactAnsweredByCardSaid : Prop := Claim7.holds Tryd.pinned (.plain (OpenSpec.ofChange fnExactAnsweredBySpec)) fnExactAnsweredByCard

/-- THE TIED CARD OF 'laws.FnSilentIn'. -/
def fnSilentInCard : Claim7 := { stood := { row := fnSilentInRow, standIns := [], harness := (true, "c57dad55dc1160738f8df8fe8ba2adac0cd959d0ec5709cd506e82028f06740f"), looks := false }, kinds := [], alts := [], laidByText := true, laidKinds := [.data, .data, .data, .data, .pinned], laidTests := true, laidLooks := .later }
def FnSilentInCardSaid : Prop := Claim7.holds Tryd.pinned (.plain (OpenSpec.ofChange fnSilentInSpec)) fnSilentInCard

/-- THE TIED CARD OF 'laws.FnExactWaysFor'. -/
def fnExactWaysForCard : Claim7 := { stood := { row := fnExactWaysForRow, standIns := [], harness := (true, "c57dad55dc1160738f8df8fe8ba2adac0cd959d0ec5709cd506e82028f06740f"), looks := false }, kinds := [], alts := [], laidByText := true, laidKinds := [.data, .data, .data, .data, .pinned], laidTests := true, laidLooks := .later }
def FnExactWaysForCardSaid : Prop := Claim7.holds Tryd.pinned (.plain (OpenSpec.ofChange fnExactWaysForSpec)) fnExactWaysForCard

/-- THE TIED CARD OF 'laws.FnApartBy'. -/
def fnApartByCard : Claim7 := { stood := { row := fnApartByRow, standIns := [], harness := (true, "c57dad55dc1160738f8df8fe8ba2adac0cd959d0ec5709cd506e82028f06740f"), looks := false }, kinds := [], alts := [], laidByText := true, laidKinds := [.data, .data, .data, .data, .pinned], laidTests := true, laidLooks := .later }
def FnApartByCardSaid : Prop := Claim7.holds Tryd.pinned (.plain (OpenSpec.ofChange fnApartBySpec)) fnApartByCard

/-- THE TIED CARD OF 'laws.FnExactApartBy'. -/
def fnExactApartByCard : Claim7 := { stood := { row := fnExactApartByRow, standIns := [], harness := (true, "c57dad55dc1160738f8df8fe8ba2adac0cd959d0ec5709cd506e82028f06740f"), looks := false }, kinds := [], alts := [], laidByText := true, laidKinds := [.data, .data, .data, .data, .pinned], laidTests := true, laidLooks := .later }
def FnExactApartByCardSaid : Prop := Claim7.holds Tryd.pinned (.plain (OpenSpec.ofChange fnExactApartBySpec)) fnExactApartByCard

/-- THE TIED CARD OF 'laws.FnScoreOf'. -/
def fnScoreOfCard : Claim7 := { stood := { row := fnScoreOfRow, standIns := [], harness := (true, "c57dad55dc1160738f8df8fe8ba2adac0cd959d0ec5709cd506e82028f06740f"), looks := false }, kinds := [], alts := [], laidByText := true, laidKinds := [.data, .data, .data, .data, .pinned], laidTests := true, laidLooks := .later }
def FnScoreOfCardSaid : Prop := Claim7.holds Tryd.pinned (.plain (OpenSpec.ofChange fnScoreOfSpec)) fnScoreOfCard

/-- THE TIED CARD OF 'laws.FnExactSimplestFor'. -/
def fnExactSimplestForCard : Claim7 := { stood := { row := fnExactSimplestForRow, standIns := [], harness := (true, "c57dad55dc1160738f8df8fe8ba2adac0cd959d0ec5709cd506e82028f06740f"), looks := false }, kinds := [], alts := [], laidByText := true, laidKinds := [.data, .data, .data, .data, .pinned], laidTests := true, laidLooks := .later }
def FnExactSimplestForCardSaid : Prop := Claim7.holds Tryd.pinned (.plain (OpenSpec.ofChange fnExactSimplestForSpec)) fnExactSimplestForCard

/-- THE TIED CARD OF 'laws.FnSimplestFor'. -/
def fnSimplestForCard : Claim7 := { stood := { row := fnSimplestForRow, standIns := [], harness := (true, "c57dad55dc1160738f8df8fe8ba2adac0cd959d0ec5709cd506e82028f06740f"), looks := false }, kinds := [], alts := [], laidByText := true, laidKinds := [.data, .data, .data, .data, .pinned], laidTests := true, laidLooks := .later }
def FnSimplestForCardSaid : Prop := Claim7.holds Tryd.pinned (.plain (OpenSpec.ofChange fnSimplestForSpec)) fnSimplestForCard

/-- THE TIED CARD OF 'laws.FnExactNextTest'. -/
def fnExactNextTestCard : Claim7 := { stood := { row := fnExactNextTestRow, standIns := [], harness := (true, "c57dad55dc1160738f8df8fe8ba2adac0cd959d0ec5709cd506e82028f06740f"), looks := false }, kinds := [], alts := [], laidByText := true, laidKinds := [.data, .data, .data, .data, .pinned], laidTests := true, laidLooks := .later }
def FnExactNextTestCardSaid : Prop := Claim7.holds Tryd.pinned (.plain (OpenSpec.ofChange fnExactNextTestSpec)) fnExactNextTestCard

/-- THE TIED CARD OF 'laws.FnNextTest'. -/
def fnNextTestCard : Claim7 := { stood := { row := fnNextTestRow, standIns := [], harness := (true, "c57dad55dc1160738f8df8fe8ba2adac0cd959d0ec5709cd506e82028f06740f"), looks := false }, kinds := [], alts := [], laidByText := true, laidKinds := [.data, .data, .data, .data, .pinned], laidTests := true, laidLooks := .later }
def FnNextTestCardSaid : Prop := Claim7.holds Tryd.pinned (.plain (OpenSpec.ofChange fnNextTestSpec)) fnNextTestCard

/-- THE SECOND FORM's CARD OF 'laws.FnAnsweredBy'. -/
def fnAnsweredByUptoCard : Claim7 := { stood := { row := fnAnsweredByUptoRow, standIns := [], harness := (true, "c57dad55dc1160738f8df8fe8ba2adac0cd959d0ec5709cd506e82028f06740f"), looks := false }, kinds := [], alts := [], laidByText := true, laidKinds := [.data, .data, .data, .data, .pinned], laidTests := true, laidLooks := .later }
def FnAnsweredByUptoCardSaid : Prop := Claim7.holds Tryd.pinned (.plain (OpenSpec.upto fnAnsweredBySpec)) fnAnsweredByUptoCard

/-- THE SECOND FORM's CARD OF 'laws.FnWaysFor'. -/
def fnWaysForUptoCard : Claim7 := { stood := { row := fnWaysForUptoRow, standIns := [], harness := (true, "c57dad55dc1160738f8df8fe8ba2adac0cd959d0ec5709cd506e82028f06740f"), looks := false }, kinds := [], alts := [], laidByText := true, laidKinds := [.data, .data, .data, .data, .pinned], laidTests := true, laidLooks := .later }
def FnWaysForUptoCardSaid : Prop := Claim7.holds Tryd.pinned (.plain (OpenSpec.upto fnWaysForSpec)) fnWaysForUptoCard

/-- THE SECOND FORM's CARD OF 'laws.FnExactAnsweredBy'. -/
def fnExactAnsweredByUptoCard : Claim7 := { stood := { row := fnExactAnsweredByUptoRow, standIns := [], harness := (true, "c57dad55dc1160738f8df8fe8ba2adac0cd959d0ec5709cd506e82028f06740f"), looks := false }, kinds := [], alts := [], laidByText := true, laidKinds := [.data, .data, .data, .data, .pinned], laidTests := true, laidLooks := .later }
def FnExactAnsweredByUptoCardSaid : Prop := Claim7.holds Tryd.pinned (.plain (OpenSpec.upto fnExactAnsweredBySpec)) fnExactAnsweredByUptoCard

/-- THE SECOND FORM's CARD OF 'laws.FnSilentIn'. -/
def fnSilentInUptoCard : Claim7 := { stood := { row := fnSilentInUptoRow, standIns := [], harness := (true, "c57dad55dc1160738f8df8fe8ba2adac0cd959d0ec5709cd506e82028f06740f"), looks := false }, kinds := [], alts := [], laidByText := true, laidKinds := [.data, .data, .data, .data, .pinned], laidTests := true, laidLooks := .later }
def FnSilentInUptoCardSaid : Prop := Claim7.holds Tryd.pinned (.plain (OpenSpec.upto fnSilentInSpec)) fnSilentInUptoCard

/-- THE SECOND FORM's CARD OF 'laws.FnExactWaysFor'. -/
def fnExactWaysForUptoCard : Claim7 := { stood := { row := fnExactWaysForUptoRow, standIns := [], harness := (true, "c57dad55dc1160738f8df8fe8ba2adac0cd959d0ec5709cd506e82028f06740f"), looks := false }, kinds := [], alts := [], laidByText := true, laidKinds := [.data, .data, .data, .data, .pinned], laidTests := true, laidLooks := .later }
def FnExactWaysForUptoCardSaid : Prop := Claim7.holds Tryd.pinned (.plain (OpenSpec.upto fnExactWaysForSpec)) fnExactWaysForUptoCard

/-- THE SECOND FORM's CARD OF 'laws.FnApartBy'. -/
def fnApartByUptoCard : Claim7 := { stood := { row := fnApartByUptoRow, standIns := [], harness := (true, "c57dad55dc1160738f8df8fe8ba2adac0cd959d0ec5709cd506e82028f06740f"), looks := false }, kinds := [], alts := [], laidByText := true, laidKinds := [.data, .data, .data, .data, .pinned], laidTests := true, laidLooks := .later }
def FnApartByUptoCardSaid : Prop := Claim7.holds Tryd.pinned (.plain (OpenSpec.upto fnApartBySpec)) fnApartByUptoCard

/-- THE SECOND FORM's CARD OF 'laws.FnExactApartBy'. -/
def fnExactApartByUptoCard : Claim7 := { stood := { row := fnExactApartByUptoRow, standIns := [], harness := (true, "c57dad55dc1160738f8df8fe8ba2adac0cd959d0ec5709cd506e82028f06740f"), looks := false }, kinds := [], alts := [], laidByText := true, laidKinds := [.data, .data, .data, .data, .pinned], laidTests := true, laidLooks := .later }
def FnExactApartByUptoCardSaid : Prop := Claim7.holds Tryd.pinned (.plain (OpenSpec.upto fnExactApartBySpec)) fnExactApartByUptoCard

/-- THE SECOND FORM's CARD OF 'laws.FnScoreOf'. -/
def fnScoreOfUptoCard : Claim7 := { stood := { row := fnScoreOfUptoRow, standIns := [], harness := (true, "c57dad55dc1160738f8df8fe8ba2adac0cd959d0ec5709cd506e82028f06740f"), looks := false }, kinds := [], alts := [], laidByText := true, laidKinds := [.data, .data, .data, .data, .pinned], laidTests := true, laidLooks := .later }
def FnScoreOfUptoCardSaid : Prop := Claim7.holds Tryd.pinned (.plain (OpenSpec.upto fnScoreOfSpec)) fnScoreOfUptoCard

/-- THE SECOND FORM's CARD OF 'laws.FnExactSimplestFor'. -/
def fnExactSimplestForUptoCard : Claim7 := { stood := { row := fnExactSimplestForUptoRow, standIns := [], harness := (true, "c57dad55dc1160738f8df8fe8ba2adac0cd959d0ec5709cd506e82028f06740f"), looks := false }, kinds := [], alts := [], laidByText := true, laidKinds := [.data, .data, .data, .data, .pinned], laidTests := true, laidLooks := .later }
def FnExactSimplestForUptoCardSaid : Prop := Claim7.holds Tryd.pinned (.plain (OpenSpec.upto fnExactSimplestForSpec)) fnExactSimplestForUptoCard

/-- THE SECOND FORM's CARD OF 'laws.FnSimplestFor'. -/
def fnSimplestForUptoCard : Claim7 := { stood := { row := fnSimplestForUptoRow, standIns := [], harness := (true, "c57dad55dc1160738f8df8fe8ba2adac0cd959d0ec5709cd506e82028f06740f"), looks := false }, kinds := [], alts := [], laidByText := true, laidKinds := [.data, .data, .data, .data, .pinned], laidTests := true, laidLooks := .later }
def FnSimplestForUptoCardSaid : Prop := Claim7.holds Tryd.pinned (.plain (OpenSpec.upto fnSimplestForSpec)) fnSimplestForUptoCard

/-- THE SECOND FORM's CARD OF 'laws.FnExactNextTest'. -/
def fnExactNextTestUptoCard : Claim7 := { stood := { row := fnExactNextTestUptoRow, standIns := [], harness := (true, "c57dad55dc1160738f8df8fe8ba2adac0cd959d0ec5709cd506e82028f06740f"), looks := false }, kinds := [], alts := [], laidByText := true, laidKinds := [.data, .data, .data, .data, .pinned], laidTests := true, laidLooks := .later }
def FnExactNextTestUptoCardSaid : Prop := Claim7.holds Tryd.pinned (.plain (OpenSpec.upto fnExactNextTestSpec)) fnExactNextTestUptoCard

/-- THE SECOND FORM's CARD OF 'laws.FnNextTest'. -/
def fnNextTestUptoCard : Claim7 := { stood := { row := fnNextTestUptoRow, standIns := [], harness := (true, "c57dad55dc1160738f8df8fe8ba2adac0cd959d0ec5709cd506e82028f06740f"), looks := false }, kinds := [], alts := [], laidByText := true, laidKinds := [.data, .data, .data, .data, .pinned], laidTests := true, laidLooks := .later }
def FnNextTestUptoCardSaid : Prop := Claim7.holds Tryd.pinned (.plain (OpenSpec.upto fnNextTestSpec)) fnNextTestUptoCard
end Rows
end Go.Proofs.YtfhefngpeknhlaaDoor
