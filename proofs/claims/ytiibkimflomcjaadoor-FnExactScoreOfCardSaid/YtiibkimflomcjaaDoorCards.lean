/-
  DERIVED. GIVEN WITH THE SEED: THE CARDS: each row of YtiibkimflomcjaaDoorRows.lean that lists a variable, with what it lists TIED to the program's text (the seventh form; the later family's looks); each row that meets fmt, with fmt's text TOLD by the authors' own Lean function (tested against real Go, not proved from fmt's source: count such statements apart). THE CARD IS WHAT COUNTS. Prove the row's statement (the work); the ties are given (YtiibkimflomcjaaDoorTie.lean); close each card by the builder's one call (the guide's Derived/Test/ToyasCard.lean, 'card_holds'). Laid BY PROGRAM, IN A SANDBOX (cutbox-door.mjs). By AI agents, Wed Nov 11 2026. No macro, syntax, notation, axiom, sorry.
-/
import Derived.Test.YtiibkimflomcjaaDoorRows
import GoSem.ClaimSeven
namespace Go.Proofs.YtiibkimflomcjaaDoor
namespace Rows

/-- THE TIED CARD OF 'laws.FnExactTakenBy'. -/
def fnExactTakenByCard : Claim7 := { stood := { row := fnExactTakenByRow, standIns := [], harness := (true, "cc8ca36150273a45559ce46deaceaa436f745a069af04d2c5b8df3f1638c91d8"), looks := false }, kinds := [], alts := [], laidByText := true, laidKinds := [.data, .data, .data, .data, .pinned], laidTests := true, laidLooks := .later }
def FnExactTakenByCardSaid : Prop := Claim7.holds Tryd.pinned (.plain (OpenSpec.ofChange fnExactTakenBySpec)) fnExactTakenByCard

/-- THE TIED CARD OF 'laws.FnExactAnswersTo'. -/
def fnExactAnswersToCard : Claim7 := { stood := { row := fnExactAnswersToRow, standIns := [], harness := (true, "cc8ca36150273a45559ce46deaceaa436f745a069af04d2c5b8df3f1638c91d8"), looks := false }, kinds := [], alts := [], laidByText := true, laidKinds := [.data, .data, .data, .data, .pinned], laidTests := true, laidLooks := .later }
def FnExactAnswersToCardSaid : Prop := Claim7.holds Tryd.pinned (.plain (OpenSpec.ofChange fnExactAnswersToSpec)) fnExactAnswersToCard

/-- THE TIED CARD OF 'laws.FnExactComesRight'. -/
def fnExactComesRightCard : Claim7 := { stood := { row := fnExactComesRightRow, standIns := [], harness := (true, "cc8ca36150273a45559ce46deaceaa436f745a069af04d2c5b8df3f1638c91d8"), looks := false }, kinds := [], alts := [], laidByText := true, laidKinds := [.data, .data, .data, .data, .pinned], laidTests := true, laidLooks := .later }
def FnExactComesRightCardSaid : Prop := Claim7.holds Tryd.pinned (.plain (OpenSpec.ofChange fnExactComesRightSpec)) fnExactComesRightCard

/-- THE TIED CARD OF 'laws.FnAnswersTo'. -/
def fnAnswersToCard : Claim7 := { stood := { row := fnAnswersToRow, standIns := [], harness := (true, "cc8ca36150273a45559ce46deaceaa436f745a069af04d2c5b8df3f1638c91d8"), looks := false }, kinds := [], alts := [], laidByText := true, laidKinds := [.data, .data, .data, .data, .pinned], laidTests := true, laidLooks := .later }
def FnAnswersToCardSaid : Prop := Claim7.holds Tryd.pinned (.plain (OpenSpec.ofChange fnAnswersToSpec)) fnAnswersToCard

/-- THE TIED CARD OF 'laws.FnExactExplains'. -/
def fnExactExplainsCard : Claim7 := { stood := { row := fnExactExplainsRow, standIns := [], harness := (true, "cc8ca36150273a45559ce46deaceaa436f745a069af04d2c5b8df3f1638c91d8"), looks := false }, kinds := [], alts := [], laidByText := true, laidKinds := [.data, .data, .data, .data, .pinned], laidTests := true, laidLooks := .later }
def FnExactExplainsCardSaid : Prop := Claim7.holds Tryd.pinned (.plain (OpenSpec.ofChange fnExactExplainsSpec)) fnExactExplainsCard

/-- THE TIED CARD OF 'laws.FnExactSilentIn'. -/
def fnExactSilentInCard : Claim7 := { stood := { row := fnExactSilentInRow, standIns := [], harness := (true, "cc8ca36150273a45559ce46deaceaa436f745a069af04d2c5b8df3f1638c91d8"), looks := false }, kinds := [], alts := [], laidByText := true, laidKinds := [.data, .data, .data, .data, .pinned], laidTests := true, laidLooks := .later }
def FnExactSilentInCardSaid : Prop := Claim7.holds Tryd.pinned (.plain (OpenSpec.ofChange fnExactSilentInSpec)) fnExactSilentInCard

/-- THE TIED CARD OF 'laws.FnExactScoreOf'. -/
def fnExactScoreOfCard : Claim7 := { stood := { row := fnExactScoreOfRow, standIns := [], harness := (true, "cc8ca36150273a45559ce46deaceaa436f745a069af04d2c5b8df3f1638c91d8"), looks := false }, kinds := [], alts := [], laidByText := true, laidKinds := [.data, .data, .data, .data, .pinned], laidTests := true, laidLooks := .later }
def FnExactScoreOfCardSaid : Prop := Claim7.holds Tryd.pinned (.plain (OpenSpec.ofChange fnExactScoreOfSpec)) fnExactScoreOfCard

/-- THE TIED CARD OF 'laws.FnComesRight'. -/
def fnComesRightCard : Claim7 := { stood := { row := fnComesRightRow, standIns := [], harness := (true, "cc8ca36150273a45559ce46deaceaa436f745a069af04d2c5b8df3f1638c91d8"), looks := false }, kinds := [], alts := [], laidByText := true, laidKinds := [.data, .data, .data, .data, .pinned], laidTests := true, laidLooks := .later }
def FnComesRightCardSaid : Prop := Claim7.holds Tryd.pinned (.plain (OpenSpec.ofChange fnComesRightSpec)) fnComesRightCard

/-- THE TIED CARD OF 'laws.FnExplains'. -/
def fnExplainsCard : Claim7 := { stood := { row := fnExplainsRow, standIns := [], harness := (true, "cc8ca36150273a45559ce46deaceaa436f745a069af04d2c5b8df3f1638c91d8"), looks := false }, kinds := [], alts := [], laidByText := true, laidKinds := [.data, .data, .data, .data, .pinned], laidTests := true, laidLooks := .later }
def FnExplainsCardSaid : Prop := Claim7.holds Tryd.pinned (.plain (OpenSpec.ofChange fnExplainsSpec)) fnExplainsCard

/-- THE TIED CARD OF 'laws.FnTakenBy'. -/
def fnTakenByCard : Claim7 := { stood := { row := fnTakenByRow, standIns := [], harness := (true, "cc8ca36150273a45559ce46deaceaa436f745a069af04d2c5b8df3f1638c91d8"), looks := false }, kinds := [], alts := [], laidByText := true, laidKinds := [.data, .data, .data, .data, .pinned], laidTests := true, laidLooks := .later }
def FnTakenByCardSaid : Prop := Claim7.holds Tryd.pinned (.plain (OpenSpec.ofChange fnTakenBySpec)) fnTakenByCard

/-- THE SECOND FORM's CARD OF 'laws.FnExactTakenBy'. -/
def fnExactTakenByUptoCard : Claim7 := { stood := { row := fnExactTakenByUptoRow, standIns := [], harness := (true, "cc8ca36150273a45559ce46deaceaa436f745a069af04d2c5b8df3f1638c91d8"), looks := false }, kinds := [], alts := [], laidByText := true, laidKinds := [.data, .data, .data, .data, .pinned], laidTests := true, laidLooks := .later }
def FnExactTakenByUptoCardSaid : Prop := Claim7.holds Tryd.pinned (.plain (OpenSpec.upto fnExactTakenBySpec)) fnExactTakenByUptoCard

/-- THE SECOND FORM's CARD OF 'laws.FnExactAnswersTo'. -/
def fnExactAnswersToUptoCard : Claim7 := { stood := { row := fnExactAnswersToUptoRow, standIns := [], harness := (true, "cc8ca36150273a45559ce46deaceaa436f745a069af04d2c5b8df3f1638c91d8"), looks := false }, kinds := [], alts := [], laidByText := true, laidKinds := [.data, .data, .data, .data, .pinned], laidTests := true, laidLooks := .later }
def FnExactAnswersToUptoCardSaid : Prop := Claim7.holds Tryd.pinned (.plain (OpenSpec.upto fnExactAnswersToSpec)) fnExactAnswersToUptoCard

/-- THE SECOND FORM's CARD OF 'laws.FnExactComesRight'. -/
def fnExactComesRightUptoCard : Claim7 := { stood := { row := fnExactComesRightUptoRow, standIns := [], harness := (true, "cc8ca36150273a45559ce46deaceaa436f745a069af04d2c5b8df3f1638c91d8"), looks := false }, kinds := [], alts := [], laidByText := true, laidKinds := [.data, .data, .data, .data, .pinned], laidTests := true, laidLooks := .later }
def FnExactComesRightUptoCardSaid : Prop := Claim7.holds Tryd.pinned (.plain (OpenSpec.upto fnExactComesRightSpec)) fnExactComesRightUptoCard

/-- THE SECOND FORM's CARD OF 'laws.FnAnswersTo'. -/
def fnAnswersToUptoCard : Claim7 := { stood := { row := fnAnswersToUptoRow, standIns := [], harness := (true, "cc8ca36150273a45559ce46deaceaa436f745a069af04d2c5b8df3f1638c91d8"), looks := false }, kinds := [], alts := [], laidByText := true, laidKinds := [.data, .data, .data, .data, .pinned], laidTests := true, laidLooks := .later }
def FnAnswersToUptoCardSaid : Prop := Claim7.holds Tryd.pinned (.plain (OpenSpec.upto fnAnswersToSpec)) fnAnswersToUptoCard

/-- THE SECOND FORM's CARD OF 'laws.FnExactExplains'. -/
def fnExactExplainsUptoCard : Claim7 := { stood := { row := fnExactExplainsUptoRow, standIns := [], harness := (true, "cc8ca36150273a45559ce46deaceaa436f745a069af04d2c5b8df3f1638c91d8"), looks := false }, kinds := [], alts := [], laidByText := true, laidKinds := [.data, .data, .data, .data, .pinned], laidTests := true, laidLooks := .later }
def FnExactExplainsUptoCardSaid : Prop := Claim7.holds Tryd.pinned (.plain (OpenSpec.upto fnExactExplainsSpec)) fnExactExplainsUptoCard

/-- THE SECOND FORM's CARD OF 'laws.FnExactSilentIn'. -/
def fnExactSilentInUptoCard : Claim7 := { stood := { row := fnExactSilentInUptoRow, standIns := [], harness := (true, "cc8ca36150273a45559ce46deaceaa436f745a069af04d2c5b8df3f1638c91d8"), looks := false }, kinds := [], alts := [], laidByText := true, laidKinds := [.data, .data, .data, .data, .pinned], laidTests := true, laidLooks := .later }
def FnExactSilentInUptoCardSaid : Prop := Claim7.holds Tryd.pinned (.plain (OpenSpec.upto fnExactSilentInSpec)) fnExactSilentInUptoCard

/-- THE SECOND FORM's CARD OF 'laws.FnExactScoreOf'. -/
def fnExactScoreOfUptoCard : Claim7 := { stood := { row := fnExactScoreOfUptoRow, standIns := [], harness := (true, "cc8ca36150273a45559ce46deaceaa436f745a069af04d2c5b8df3f1638c91d8"), looks := false }, kinds := [], alts := [], laidByText := true, laidKinds := [.data, .data, .data, .data, .pinned], laidTests := true, laidLooks := .later }
def FnExactScoreOfUptoCardSaid : Prop := Claim7.holds Tryd.pinned (.plain (OpenSpec.upto fnExactScoreOfSpec)) fnExactScoreOfUptoCard

/-- THE SECOND FORM's CARD OF 'laws.FnComesRight'. -/
def fnComesRightUptoCard : Claim7 := { stood := { row := fnComesRightUptoRow, standIns := [], harness := (true, "cc8ca36150273a45559ce46deaceaa436f745a069af04d2c5b8df3f1638c91d8"), looks := false }, kinds := [], alts := [], laidByText := true, laidKinds := [.data, .data, .data, .data, .pinned], laidTests := true, laidLooks := .later }
def FnComesRightUptoCardSaid : Prop := Claim7.holds Tryd.pinned (.plain (OpenSpec.upto fnComesRightSpec)) fnComesRightUptoCard

/-- THE SECOND FORM's CARD OF 'laws.FnExplains'. -/
def fnExplainsUptoCard : Claim7 := { stood := { row := fnExplainsUptoRow, standIns := [], harness := (true, "cc8ca36150273a45559ce46deaceaa436f745a069af04d2c5b8df3f1638c91d8"), looks := false }, kinds := [], alts := [], laidByText := true, laidKinds := [.data, .data, .data, .data, .pinned], laidTests := true, laidLooks := .later }
def FnExplainsUptoCardSaid : Prop := Claim7.holds Tryd.pinned (.plain (OpenSpec.upto fnExplainsSpec)) fnExplainsUptoCard

/-- THE SECOND FORM's CARD OF 'laws.FnTakenBy'. -/
def fnTakenByUptoCard : Claim7 := { stood := { row := fnTakenByUptoRow, standIns := [], harness := (true, "cc8ca36150273a45559ce46deaceaa436f745a069af04d2c5b8df3f1638c91d8"), looks := false }, kinds := [], alts := [], laidByText := true, laidKinds := [.data, .data, .data, .data, .pinned], laidTests := true, laidLooks := .later }
def FnTakenByUptoCardSaid : Prop := Claim7.holds Tryd.pinned (.plain (OpenSpec.upto fnTakenBySpec)) fnTakenByUptoCard
end Rows
end Go.Proofs.YtiibkimflomcjaaDoor
