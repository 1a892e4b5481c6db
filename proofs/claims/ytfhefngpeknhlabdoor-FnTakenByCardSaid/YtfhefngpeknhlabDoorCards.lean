/-
  DERIVED. GIVEN WITH THE SEED: THE CARDS: each row of YtfhefngpeknhlabDoorRows.lean that lists a variable, with what it lists TIED to the program's text (the seventh form; the later family's looks); each row that meets fmt, with fmt's text TOLD by the authors' own Lean function (tested against real Go, not proved from fmt's source: count such statements apart). THE CARD IS WHAT COUNTS. Prove the row's statement (the work); the ties are given (YtfhefngpeknhlabDoorTie.lean); close each card by the builder's one call (the guide's Derived/Test/ToyasCard.lean, 'card_holds'). Laid BY PROGRAM, IN A SANDBOX (cutbox-door.mjs). By AI agents, Wed Nov 11 2026. No macro, syntax, notation, axiom, sorry.
-/
import Derived.Test.YtfhefngpeknhlabDoorRows
import GoSem.ClaimSeven
namespace Go.Proofs.YtfhefngpeknhlabDoor
namespace Rows

/-- THE TIED CARD OF 'laws.FnAnswersTo'. -/
def fnAnswersToCard : Claim7 := { stood := { row := fnAnswersToRow, standIns := [], harness := (true, "6ae9b0201900fa440e736ce1bec2740a521053715146659ad438370ad70b9204"), looks := false }, kinds := [], alts := [], laidByText := true, laidKinds := [.data, .data, .data, .data, .pinned], laidTests := true, laidLooks := .later }
def FnAnswersToCardSaid : Prop := Claim7.holds Tryd.pinned (.plain (OpenSpec.ofChange fnAnswersToSpec)) fnAnswersToCard

/-- THE TIED CARD OF 'laws.FnComesRight'. -/
def fnComesRightCard : Claim7 := { stood := { row := fnComesRightRow, standIns := [], harness := (true, "6ae9b0201900fa440e736ce1bec2740a521053715146659ad438370ad70b9204"), looks := false }, kinds := [], alts := [], laidByText := true, laidKinds := [.data, .data, .data, .data, .pinned], laidTests := true, laidLooks := .later }
def FnComesRightCardSaid : Prop := Claim7.holds Tryd.pinned (.plain (OpenSpec.ofChange fnComesRightSpec)) fnComesRightCard

/-- THE TIED CARD OF 'laws.FnExplains'. -/
def fnExplainsCard : Claim7 := { stood := { row := fnExplainsRow, standIns := [], harness := (true, "6ae9b0201900fa440e736ce1bec2740a521053715146659ad438370ad70b9204"), looks := false }, kinds := [], alts := [], laidByText := true, laidKinds := [.data, .data, .data, .data, .pinned], laidTests := true, laidLooks := .later }
def FnExplainsCardSaid : Prop := Claim7.holds Tryd.pinned (.plain (OpenSpec.ofChange fnExplainsSpec)) fnExplainsCard

/-- THE TIED CARD OF 'laws.FnTakenBy'. -/
def fnTakenByCard : Claim7 := { stood := { row := fnTakenByRow, standIns := [], harness := (true, "6ae9b0201900fa440e736ce1bec2740a521053715146659ad438370ad70b9204"), looks := false }, kinds := [], alts := [], laidByText := true, laidKinds := [.data, .data, .data, .data, .pinned], laidTests := true, laidLooks := .later }
def FnTakenByCardSaid : Prop := Claim7.holds Tryd.pinned (.plain (OpenSpec.ofChange fnTakenBySpec)) fnTakenByCard

/-- THE SECOND FORM's CARD OF 'laws.FnAnswersTo'. -/
def fnAnswersToUptoCard : Claim7 := { stood := { row := fnAnswersToUptoRow, standIns := [], harness := (true, "6ae9b0201900fa440e736ce1bec2740a521053715146659ad438370ad70b9204"), looks := false }, kinds := [], alts := [], laidByText := true, laidKinds := [.data, .data, .data, .data, .pinned], laidTests := true, laidLooks := .later }
def FnAnswersToUptoCardSaid : Prop := Claim7.holds Tryd.pinned (.plain (OpenSpec.upto fnAnswersToSpec)) fnAnswersToUptoCard

/-- THE SECOND FORM's CARD OF 'laws.FnComesRight'. -/
def fnComesRightUptoCard : Claim7 := { stood := { row := fnComesRightUptoRow, standIns := [], harness := (true, "6ae9b0201900fa440e736ce1bec2740a521053715146659ad438370ad70b9204"), looks := false }, kinds := [], alts := [], laidByText := true, laidKinds := [.data, .data, .data, .data, .pinned], laidTests := true, laidLooks := .later }
def FnComesRightUptoCardSaid : Prop := Claim7.holds Tryd.pinned (.plain (OpenSpec.upto fnComesRightSpec)) fnComesRightUptoCard

/-- THE SECOND FORM's CARD OF 'laws.FnExplains'. -/
def fnExplainsUptoCard : Claim7 := { stood := { row := fnExplainsUptoRow, standIns := [], harness := (true, "6ae9b0201900fa440e736ce1bec2740a521053715146659ad438370ad70b9204"), looks := false }, kinds := [], alts := [], laidByText := true, laidKinds := [.data, .data, .data, .data, .pinned], laidTests := true, laidLooks := .later }
def FnExplainsUptoCardSaid : Prop := Claim7.holds Tryd.pinned (.plain (OpenSpec.upto fnExplainsSpec)) fnExplainsUptoCard

/-- THE SECOND FORM's CARD OF 'laws.FnTakenBy'. -/
def fnTakenByUptoCard : Claim7 := { stood := { row := fnTakenByUptoRow, standIns := [], harness := (true, "6ae9b0201900fa440e736ce1bec2740a521053715146659ad438370ad70b9204"), looks := false }, kinds := [], alts := [], laidByText := true, laidKinds := [.data, .data, .data, .data, .pinned], laidTests := true, laidLooks := .later }
def FnTakenByUptoCardSaid : Prop := Claim7.holds Tryd.pinned (.plain (OpenSpec.upto fnTakenBySpec)) fnTakenByUptoCard
end Rows
end Go.Proofs.YtfhefngpeknhlabDoor
