/-
  DERIVED. GIVEN WITH THE SEED: THE CARDS: each row of YtfmfjbphflkhiaaDoorRows.lean that lists a variable, with what it lists TIED to the program's text (the seventh form; the later family's looks); each row that meets fmt, with fmt's text TOLD by the authors' own Lean function (tested against real Go, not proved from fmt's source: count such statements apart). THE CARD IS WHAT COUNTS. Prove the row's statement (the work); the ties are given (YtfmfjbphflkhiaaDoorTie.lean); close each card by the builder's one call (the guide's Derived/Test/ToyasCard.lean, 'card_holds'). Laid BY PROGRAM, IN A SANDBOX (cutbox-door.mjs). By AI agents, Wed Nov 11 2026. No macro, syntax, notation, axiom, sorry.
-/
import Derived.Test.YtfmfjbphflkhiaaDoorRows
import GoSem.ClaimSeven
namespace Go.Proofs.YtfmfjbphflkhiaaDoor
namespace Rows

/-- THE TIED CARD OF 'laws.FnRowWritten'. -/
def fnRowWrittenCard : Claim7 := { stood := { row := fnRowWrittenRow, standIns := [], harness := (true, "3973740048f94c4efcb28116a4d133eda46e372f7aac9f323e38650c49734a23"), looks := true }, kinds := [], alts := [], laidByText := true, laidKinds := [.data, .data, .data, .data, .sentinel, .sentinel, .pinned], laidTests := true, laidLooks := .later }
def FnRowWrittenCardSaid : Prop := Claim7.holds Tryd.pinned (.plain (OpenSpec.ofChange fnRowWrittenSpec)) fnRowWrittenCard

/-- THE TIED CARD OF 'laws.FnDivides'. -/
def fnDividesCard : Claim7 := { stood := { row := fnDividesRow, standIns := [], harness := (true, "3973740048f94c4efcb28116a4d133eda46e372f7aac9f323e38650c49734a23"), looks := true }, kinds := [], alts := [], laidByText := true, laidKinds := [.data, .data, .data, .data, .pinned], laidTests := true, laidLooks := .later }
def FnDividesCardSaid : Prop := Claim7.holds Tryd.pinned (.plain (OpenSpec.ofChange fnDividesSpec)) fnDividesCard

/-- THE TIED CARD OF 'laws.FnExactRowsOf'. -/
def fnExactRowsOfCard : Claim7 := { stood := { row := fnExactRowsOfRow, standIns := [], harness := (true, "3973740048f94c4efcb28116a4d133eda46e372f7aac9f323e38650c49734a23"), looks := true }, kinds := [], alts := [], laidByText := true, laidKinds := [.data, .data, .data, .data, .pinned], laidTests := true, laidLooks := .later }
def FnExactRowsOfCardSaid : Prop := Claim7.holds Tryd.pinned (.plain (OpenSpec.ofChange fnExactRowsOfSpec)) fnExactRowsOfCard

/-- THE TIED CARD OF 'laws.FnChecksOut'. -/
def fnChecksOutCard : Claim7 := { stood := { row := fnChecksOutRow, standIns := [], harness := (true, "3973740048f94c4efcb28116a4d133eda46e372f7aac9f323e38650c49734a23"), looks := true }, kinds := [], alts := [], laidByText := true, laidKinds := [.data, .data, .data, .sentinel, .sentinel], laidTests := true, laidLooks := .later }
def FnChecksOutCardSaid : Prop := Claim7.holds Tryd.pinned (.plain (OpenSpec.ofChange fnChecksOutSpec)) fnChecksOutCard

/-- THE TIED CARD OF 'laws.FnExactProductOf'. -/
def fnExactProductOfCard : Claim7 := { stood := { row := fnExactProductOfRow, standIns := [], harness := (true, "3973740048f94c4efcb28116a4d133eda46e372f7aac9f323e38650c49734a23"), looks := true }, kinds := [], alts := [], laidByText := true, laidKinds := [.data, .data, .data, .data, .pinned], laidTests := true, laidLooks := .later }
def FnExactProductOfCardSaid : Prop := Claim7.holds Tryd.pinned (.plain (OpenSpec.ofChange fnExactProductOfSpec)) fnExactProductOfCard

/-- THE SECOND FORM's CARD OF 'laws.FnRowWritten'. -/
def fnRowWrittenUptoCard : Claim7 := { stood := { row := fnRowWrittenUptoRow, standIns := [], harness := (true, "3973740048f94c4efcb28116a4d133eda46e372f7aac9f323e38650c49734a23"), looks := true }, kinds := [], alts := [], laidByText := true, laidKinds := [.data, .data, .data, .data, .sentinel, .sentinel, .pinned], laidTests := true, laidLooks := .later }
def FnRowWrittenUptoCardSaid : Prop := Claim7.holds Tryd.pinned (.plain (OpenSpec.upto fnRowWrittenSpec)) fnRowWrittenUptoCard

/-- THE SECOND FORM's CARD OF 'laws.FnDivides'. -/
def fnDividesUptoCard : Claim7 := { stood := { row := fnDividesUptoRow, standIns := [], harness := (true, "3973740048f94c4efcb28116a4d133eda46e372f7aac9f323e38650c49734a23"), looks := true }, kinds := [], alts := [], laidByText := true, laidKinds := [.data, .data, .data, .data, .pinned], laidTests := true, laidLooks := .later }
def FnDividesUptoCardSaid : Prop := Claim7.holds Tryd.pinned (.plain (OpenSpec.upto fnDividesSpec)) fnDividesUptoCard

/-- THE SECOND FORM's CARD OF 'laws.FnExactRowsOf'. -/
def fnExactRowsOfUptoCard : Claim7 := { stood := { row := fnExactRowsOfUptoRow, standIns := [], harness := (true, "3973740048f94c4efcb28116a4d133eda46e372f7aac9f323e38650c49734a23"), looks := true }, kinds := [], alts := [], laidByText := true, laidKinds := [.data, .data, .data, .data, .pinned], laidTests := true, laidLooks := .later }
def FnExactRowsOfUptoCardSaid : Prop := Claim7.holds Tryd.pinned (.plain (OpenSpec.upto fnExactRowsOfSpec)) fnExactRowsOfUptoCard

/-- THE SECOND FORM's CARD OF 'laws.FnChecksOut'. -/
def fnChecksOutUptoCard : Claim7 := { stood := { row := fnChecksOutUptoRow, standIns := [], harness := (true, "3973740048f94c4efcb28116a4d133eda46e372f7aac9f323e38650c49734a23"), looks := true }, kinds := [], alts := [], laidByText := true, laidKinds := [.data, .data, .data, .sentinel, .sentinel], laidTests := true, laidLooks := .later }
def FnChecksOutUptoCardSaid : Prop := Claim7.holds Tryd.pinned (.plain (OpenSpec.upto fnChecksOutSpec)) fnChecksOutUptoCard

/-- THE SECOND FORM's CARD OF 'laws.FnExactProductOf'. -/
def fnExactProductOfUptoCard : Claim7 := { stood := { row := fnExactProductOfUptoRow, standIns := [], harness := (true, "3973740048f94c4efcb28116a4d133eda46e372f7aac9f323e38650c49734a23"), looks := true }, kinds := [], alts := [], laidByText := true, laidKinds := [.data, .data, .data, .data, .pinned], laidTests := true, laidLooks := .later }
def FnExactProductOfUptoCardSaid : Prop := Claim7.holds Tryd.pinned (.plain (OpenSpec.upto fnExactProductOfSpec)) fnExactProductOfUptoCard
end Rows
end Go.Proofs.YtfmfjbphflkhiaaDoor
