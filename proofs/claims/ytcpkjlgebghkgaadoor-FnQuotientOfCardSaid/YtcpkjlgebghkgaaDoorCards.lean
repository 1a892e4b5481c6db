/-
  DERIVED. GIVEN WITH THE SEED: THE CARDS: each row of YtcpkjlgebghkgaaDoorRows.lean that lists a variable, with what it lists TIED to the program's text (the seventh form; the later family's looks); each row that meets fmt, with fmt's text TOLD by the authors' own Lean function (tested against real Go, not proved from fmt's source: count such statements apart). THE CARD IS WHAT COUNTS. Prove the row's statement (the work); the ties are given (YtcpkjlgebghkgaaDoorTie.lean); close each card by the builder's one call (the guide's Derived/Test/ToyasCard.lean, 'card_holds'). Laid BY PROGRAM, IN A SANDBOX (cutbox-door.mjs). By AI agents, Wed Nov 11 2026. No macro, syntax, notation, axiom, sorry.
-/
import Derived.Test.YtcpkjlgebghkgaaDoorRows
import GoSem.ClaimSeven
namespace Go.Proofs.YtcpkjlgebghkgaaDoor
namespace Rows

/-- THE TIED CARD OF 'laws.FnRowWritten'. -/
def fnRowWrittenCard : Claim7 := { stood := { row := fnRowWrittenRow, standIns := [], harness := (true, "75b6a56bfa483f11cd4eaa4093405edabf1be2ca8c6342eb39e76b4c1b16f330"), looks := true }, kinds := [], alts := [], laidByText := true, laidKinds := [.data, .data, .data, .data, .sentinel, .sentinel, .pinned], laidTests := true, laidLooks := .later }
def FnRowWrittenCardSaid : Prop := Claim7.holds Tryd.pinned (.plain (OpenSpec.ofChange fnRowWrittenSpec)) fnRowWrittenCard

/-- THE TIED CARD OF 'laws.FnExactQuotientOf'. -/
def fnExactQuotientOfCard : Claim7 := { stood := { row := fnExactQuotientOfRow, standIns := [], harness := (true, "75b6a56bfa483f11cd4eaa4093405edabf1be2ca8c6342eb39e76b4c1b16f330"), looks := true }, kinds := [], alts := [], laidByText := true, laidKinds := [.data, .data, .data, .data, .pinned], laidTests := true, laidLooks := .later }
def FnExactQuotientOfCardSaid : Prop := Claim7.holds Tryd.pinned (.plain (OpenSpec.ofChange fnExactQuotientOfSpec)) fnExactQuotientOfCard

/-- THE TIED CARD OF 'laws.FnExactDividendOf'. -/
def fnExactDividendOfCard : Claim7 := { stood := { row := fnExactDividendOfRow, standIns := [], harness := (true, "75b6a56bfa483f11cd4eaa4093405edabf1be2ca8c6342eb39e76b4c1b16f330"), looks := true }, kinds := [], alts := [], laidByText := true, laidKinds := [.data, .data, .data, .data, .pinned], laidTests := true, laidLooks := .later }
def FnExactDividendOfCardSaid : Prop := Claim7.holds Tryd.pinned (.plain (OpenSpec.ofChange fnExactDividendOfSpec)) fnExactDividendOfCard

/-- THE TIED CARD OF 'laws.FnExactResultOf'. -/
def fnExactResultOfCard : Claim7 := { stood := { row := fnExactResultOfRow, standIns := [], harness := (true, "75b6a56bfa483f11cd4eaa4093405edabf1be2ca8c6342eb39e76b4c1b16f330"), looks := true }, kinds := [], alts := [], laidByText := true, laidKinds := [.data, .data, .data, .data, .pinned], laidTests := true, laidLooks := .later }
def FnExactResultOfCardSaid : Prop := Claim7.holds Tryd.pinned (.plain (OpenSpec.ofChange fnExactResultOfSpec)) fnExactResultOfCard

/-- THE TIED CARD OF 'laws.FnExactDivides'. -/
def fnExactDividesCard : Claim7 := { stood := { row := fnExactDividesRow, standIns := [], harness := (true, "75b6a56bfa483f11cd4eaa4093405edabf1be2ca8c6342eb39e76b4c1b16f330"), looks := true }, kinds := [], alts := [], laidByText := true, laidKinds := [.data, .data, .data, .data, .pinned], laidTests := true, laidLooks := .later }
def FnExactDividesCardSaid : Prop := Claim7.holds Tryd.pinned (.plain (OpenSpec.ofChange fnExactDividesSpec)) fnExactDividesCard

/-- THE TIED CARD OF 'laws.FnDividedOf'. -/
def fnDividedOfCard : Claim7 := { stood := { row := fnDividedOfRow, standIns := [], harness := (true, "75b6a56bfa483f11cd4eaa4093405edabf1be2ca8c6342eb39e76b4c1b16f330"), looks := true }, kinds := [], alts := [], laidByText := true, laidKinds := [.data, .data, .data, .data, .pinned], laidTests := true, laidLooks := .later }
def FnDividedOfCardSaid : Prop := Claim7.holds Tryd.pinned (.plain (OpenSpec.ofChange fnDividedOfSpec)) fnDividedOfCard

/-- THE TIED CARD OF 'laws.FnDivides'. -/
def fnDividesCard : Claim7 := { stood := { row := fnDividesRow, standIns := [], harness := (true, "75b6a56bfa483f11cd4eaa4093405edabf1be2ca8c6342eb39e76b4c1b16f330"), looks := true }, kinds := [], alts := [], laidByText := true, laidKinds := [.data, .data, .data, .data, .pinned], laidTests := true, laidLooks := .later }
def FnDividesCardSaid : Prop := Claim7.holds Tryd.pinned (.plain (OpenSpec.ofChange fnDividesSpec)) fnDividesCard

/-- THE TIED CARD OF 'laws.FnExactRowsOf'. -/
def fnExactRowsOfCard : Claim7 := { stood := { row := fnExactRowsOfRow, standIns := [], harness := (true, "75b6a56bfa483f11cd4eaa4093405edabf1be2ca8c6342eb39e76b4c1b16f330"), looks := true }, kinds := [], alts := [], laidByText := true, laidKinds := [.data, .data, .data, .data, .pinned], laidTests := true, laidLooks := .later }
def FnExactRowsOfCardSaid : Prop := Claim7.holds Tryd.pinned (.plain (OpenSpec.ofChange fnExactRowsOfSpec)) fnExactRowsOfCard

/-- THE TIED CARD OF 'laws.FnChecksOut'. -/
def fnChecksOutCard : Claim7 := { stood := { row := fnChecksOutRow, standIns := [], harness := (true, "75b6a56bfa483f11cd4eaa4093405edabf1be2ca8c6342eb39e76b4c1b16f330"), looks := true }, kinds := [], alts := [], laidByText := true, laidKinds := [.data, .data, .data, .sentinel, .sentinel], laidTests := true, laidLooks := .later }
def FnChecksOutCardSaid : Prop := Claim7.holds Tryd.pinned (.plain (OpenSpec.ofChange fnChecksOutSpec)) fnChecksOutCard

/-- THE TIED CARD OF 'laws.FnDividendOf'. -/
def fnDividendOfCard : Claim7 := { stood := { row := fnDividendOfRow, standIns := [], harness := (true, "75b6a56bfa483f11cd4eaa4093405edabf1be2ca8c6342eb39e76b4c1b16f330"), looks := true }, kinds := [], alts := [], laidByText := true, laidKinds := [.data, .data, .data, .data, .sentinel, .sentinel, .pinned], laidTests := true, laidLooks := .later }
def FnDividendOfCardSaid : Prop := Claim7.holds Tryd.pinned (.plain (OpenSpec.ofChange fnDividendOfSpec)) fnDividendOfCard

/-- THE TIED CARD OF 'laws.FnQuotientOf'. -/
def fnQuotientOfCard : Claim7 := { stood := { row := fnQuotientOfRow, standIns := [], harness := (true, "75b6a56bfa483f11cd4eaa4093405edabf1be2ca8c6342eb39e76b4c1b16f330"), looks := true }, kinds := [], alts := [], laidByText := true, laidKinds := [.data, .data, .data, .data, .sentinel, .sentinel, .pinned], laidTests := true, laidLooks := .later }
def FnQuotientOfCardSaid : Prop := Claim7.holds Tryd.pinned (.plain (OpenSpec.ofChange fnQuotientOfSpec)) fnQuotientOfCard

/-- THE TIED CARD OF 'laws.FnResultOf'. -/
def fnResultOfCard : Claim7 := { stood := { row := fnResultOfRow, standIns := [], harness := (true, "75b6a56bfa483f11cd4eaa4093405edabf1be2ca8c6342eb39e76b4c1b16f330"), looks := true }, kinds := [], alts := [], laidByText := true, laidKinds := [.data, .data, .data, .data, .sentinel, .sentinel, .pinned], laidTests := true, laidLooks := .later }
def FnResultOfCardSaid : Prop := Claim7.holds Tryd.pinned (.plain (OpenSpec.ofChange fnResultOfSpec)) fnResultOfCard

/-- THE TIED CARD OF 'laws.FnExactProductOf'. -/
def fnExactProductOfCard : Claim7 := { stood := { row := fnExactProductOfRow, standIns := [], harness := (true, "75b6a56bfa483f11cd4eaa4093405edabf1be2ca8c6342eb39e76b4c1b16f330"), looks := true }, kinds := [], alts := [], laidByText := true, laidKinds := [.data, .data, .data, .data, .pinned], laidTests := true, laidLooks := .later }
def FnExactProductOfCardSaid : Prop := Claim7.holds Tryd.pinned (.plain (OpenSpec.ofChange fnExactProductOfSpec)) fnExactProductOfCard

/-- THE SECOND FORM's CARD OF 'laws.FnRowWritten'. -/
def fnRowWrittenUptoCard : Claim7 := { stood := { row := fnRowWrittenUptoRow, standIns := [], harness := (true, "75b6a56bfa483f11cd4eaa4093405edabf1be2ca8c6342eb39e76b4c1b16f330"), looks := true }, kinds := [], alts := [], laidByText := true, laidKinds := [.data, .data, .data, .data, .sentinel, .sentinel, .pinned], laidTests := true, laidLooks := .later }
def FnRowWrittenUptoCardSaid : Prop := Claim7.holds Tryd.pinned (.plain (OpenSpec.upto fnRowWrittenSpec)) fnRowWrittenUptoCard

/-- THE SECOND FORM's CARD OF 'laws.FnExactQuotientOf'. -/
def fnExactQuotientOfUptoCard : Claim7 := { stood := { row := fnExactQuotientOfUptoRow, standIns := [], harness := (true, "75b6a56bfa483f11cd4eaa4093405edabf1be2ca8c6342eb39e76b4c1b16f330"), looks := true }, kinds := [], alts := [], laidByText := true, laidKinds := [.data, .data, .data, .data, .pinned], laidTests := true, laidLooks := .later }
def FnExactQuotientOfUptoCardSaid : Prop := Claim7.holds Tryd.pinned (.plain (OpenSpec.upto fnExactQuotientOfSpec)) fnExactQuotientOfUptoCard

/-- THE SECOND FORM's CARD OF 'laws.FnExactDividendOf'. -/
def fnExactDividendOfUptoCard : Claim7 := { stood := { row := fnExactDividendOfUptoRow, standIns := [], harness := (true, "75b6a56bfa483f11cd4eaa4093405edabf1be2ca8c6342eb39e76b4c1b16f330"), looks := true }, kinds := [], alts := [], laidByText := true, laidKinds := [.data, .data, .data, .data, .pinned], laidTests := true, laidLooks := .later }
def FnExactDividendOfUptoCardSaid : Prop := Claim7.holds Tryd.pinned (.plain (OpenSpec.upto fnExactDividendOfSpec)) fnExactDividendOfUptoCard

/-- THE SECOND FORM's CARD OF 'laws.FnExactResultOf'. -/
def fnExactResultOfUptoCard : Claim7 := { stood := { row := fnExactResultOfUptoRow, standIns := [], harness := (true, "75b6a56bfa483f11cd4eaa4093405edabf1be2ca8c6342eb39e76b4c1b16f330"), looks := true }, kinds := [], alts := [], laidByText := true, laidKinds := [.data, .data, .data, .data, .pinned], laidTests := true, laidLooks := .later }
def FnExactResultOfUptoCardSaid : Prop := Claim7.holds Tryd.pinned (.plain (OpenSpec.upto fnExactResultOfSpec)) fnExactResultOfUptoCard

/-- THE SECOND FORM's CARD OF 'laws.FnExactDivides'. -/
def fnExactDividesUptoCard : Claim7 := { stood := { row := fnExactDividesUptoRow, standIns := [], harness := (true, "75b6a56bfa483f11cd4eaa4093405edabf1be2ca8c6342eb39e76b4c1b16f330"), looks := true }, kinds := [], alts := [], laidByText := true, laidKinds := [.data, .data, .data, .data, .pinned], laidTests := true, laidLooks := .later }
def FnExactDividesUptoCardSaid : Prop := Claim7.holds Tryd.pinned (.plain (OpenSpec.upto fnExactDividesSpec)) fnExactDividesUptoCard

/-- THE SECOND FORM's CARD OF 'laws.FnDividedOf'. -/
def fnDividedOfUptoCard : Claim7 := { stood := { row := fnDividedOfUptoRow, standIns := [], harness := (true, "75b6a56bfa483f11cd4eaa4093405edabf1be2ca8c6342eb39e76b4c1b16f330"), looks := true }, kinds := [], alts := [], laidByText := true, laidKinds := [.data, .data, .data, .data, .pinned], laidTests := true, laidLooks := .later }
def FnDividedOfUptoCardSaid : Prop := Claim7.holds Tryd.pinned (.plain (OpenSpec.upto fnDividedOfSpec)) fnDividedOfUptoCard

/-- THE SECOND FORM's CARD OF 'laws.FnDivides'. -/
def fnDividesUptoCard : Claim7 := { stood := { row := fnDividesUptoRow, standIns := [], harness := (true, "75b6a56bfa483f11cd4eaa4093405edabf1be2ca8c6342eb39e76b4c1b16f330"), looks := true }, kinds := [], alts := [], laidByText := true, laidKinds := [.data, .data, .data, .data, .pinned], laidTests := true, laidLooks := .later }
def FnDividesUptoCardSaid : Prop := Claim7.holds Tryd.pinned (.plain (OpenSpec.upto fnDividesSpec)) fnDividesUptoCard

/-- THE SECOND FORM's CARD OF 'laws.FnExactRowsOf'. -/
def fnExactRowsOfUptoCard : Claim7 := { stood := { row := fnExactRowsOfUptoRow, standIns := [], harness := (true, "75b6a56bfa483f11cd4eaa4093405edabf1be2ca8c6342eb39e76b4c1b16f330"), looks := true }, kinds := [], alts := [], laidByText := true, laidKinds := [.data, .data, .data, .data, .pinned], laidTests := true, laidLooks := .later }
def FnExactRowsOfUptoCardSaid : Prop := Claim7.holds Tryd.pinned (.plain (OpenSpec.upto fnExactRowsOfSpec)) fnExactRowsOfUptoCard

/-- THE SECOND FORM's CARD OF 'laws.FnChecksOut'. -/
def fnChecksOutUptoCard : Claim7 := { stood := { row := fnChecksOutUptoRow, standIns := [], harness := (true, "75b6a56bfa483f11cd4eaa4093405edabf1be2ca8c6342eb39e76b4c1b16f330"), looks := true }, kinds := [], alts := [], laidByText := true, laidKinds := [.data, .data, .data, .sentinel, .sentinel], laidTests := true, laidLooks := .later }
def FnChecksOutUptoCardSaid : Prop := Claim7.holds Tryd.pinned (.plain (OpenSpec.upto fnChecksOutSpec)) fnChecksOutUptoCard

/-- THE SECOND FORM's CARD OF 'laws.FnDividendOf'. -/
def fnDividendOfUptoCard : Claim7 := { stood := { row := fnDividendOfUptoRow, standIns := [], harness := (true, "75b6a56bfa483f11cd4eaa4093405edabf1be2ca8c6342eb39e76b4c1b16f330"), looks := true }, kinds := [], alts := [], laidByText := true, laidKinds := [.data, .data, .data, .data, .sentinel, .sentinel, .pinned], laidTests := true, laidLooks := .later }
def FnDividendOfUptoCardSaid : Prop := Claim7.holds Tryd.pinned (.plain (OpenSpec.upto fnDividendOfSpec)) fnDividendOfUptoCard

/-- THE SECOND FORM's CARD OF 'laws.FnQuotientOf'. -/
def fnQuotientOfUptoCard : Claim7 := { stood := { row := fnQuotientOfUptoRow, standIns := [], harness := (true, "75b6a56bfa483f11cd4eaa4093405edabf1be2ca8c6342eb39e76b4c1b16f330"), looks := true }, kinds := [], alts := [], laidByText := true, laidKinds := [.data, .data, .data, .data, .sentinel, .sentinel, .pinned], laidTests := true, laidLooks := .later }
def FnQuotientOfUptoCardSaid : Prop := Claim7.holds Tryd.pinned (.plain (OpenSpec.upto fnQuotientOfSpec)) fnQuotientOfUptoCard

/-- THE SECOND FORM's CARD OF 'laws.FnResultOf'. -/
def fnResultOfUptoCard : Claim7 := { stood := { row := fnResultOfUptoRow, standIns := [], harness := (true, "75b6a56bfa483f11cd4eaa4093405edabf1be2ca8c6342eb39e76b4c1b16f330"), looks := true }, kinds := [], alts := [], laidByText := true, laidKinds := [.data, .data, .data, .data, .sentinel, .sentinel, .pinned], laidTests := true, laidLooks := .later }
def FnResultOfUptoCardSaid : Prop := Claim7.holds Tryd.pinned (.plain (OpenSpec.upto fnResultOfSpec)) fnResultOfUptoCard

/-- THE SECOND FORM's CARD OF 'laws.FnExactProductOf'. -/
def fnExactProductOfUptoCard : Claim7 := { stood := { row := fnExactProductOfUptoRow, standIns := [], harness := (true, "75b6a56bfa483f11cd4eaa4093405edabf1be2ca8c6342eb39e76b4c1b16f330"), looks := true }, kinds := [], alts := [], laidByText := true, laidKinds := [.data, .data, .data, .data, .pinned], laidTests := true, laidLooks := .later }
def FnExactProductOfUptoCardSaid : Prop := Claim7.holds Tryd.pinned (.plain (OpenSpec.upto fnExactProductOfSpec)) fnExactProductOfUptoCard
end Rows
end Go.Proofs.YtcpkjlgebghkgaaDoor
