/-
  DERIVED. GIVEN WITH THE SEED: THE CARDS: each row of YtfmfjbphflkhiaaGreatDoorRows.lean that lists a variable, with what it lists TIED to the program's text (the seventh form; the later family's looks); each row that meets fmt, with fmt's text TOLD by the authors' own Lean function (tested against real Go, not proved from fmt's source: count such statements apart). THE CARD IS WHAT COUNTS. Prove the row's statement (the work); the ties are given (YtfmfjbphflkhiaaGreatDoorTie.lean); close each card by the builder's one call (the guide's Derived/Test/ToyasCard.lean, 'card_holds'). Laid BY PROGRAM, IN A SANDBOX (cutbox-door.mjs). By AI agents, Wed Nov 11 2026. No macro, syntax, notation, axiom, sorry.
-/
import Derived.Test.YtfmfjbphflkhiaaGreatDoorRows
import GoSem.ClaimSeven
namespace Go.Proofs.YtfmfjbphflkhiaaGreatDoor
namespace Rows

/-- THE TIED CARD OF 'laws.FnRowsOf'. -/
def fnRowsOfCard : Claim7 := { stood := { row := fnRowsOfRow, standIns := [], harness := (true, "d9cbe5927b889854a646315f791334324c957edec36f6df0d7e58174eea7323a"), looks := true }, kinds := [], alts := [], laidByText := true, laidKinds := [.data, .data, .data, .data, .sentinel, .sentinel, .pinned], laidTests := true, laidLooks := .later }
def FnRowsOfCardSaid : Prop := Claim7.holds Tryz.pinned (.plain (OpenSpec.ofChange fnRowsOfSpec)) fnRowsOfCard

/-- THE TIED CARD OF 'laws.FnProductOf'. -/
def fnProductOfCard : Claim7 := { stood := { row := fnProductOfRow, standIns := [], harness := (true, "d9cbe5927b889854a646315f791334324c957edec36f6df0d7e58174eea7323a"), looks := true }, kinds := [], alts := [], laidByText := true, laidKinds := [.data, .data, .data, .data, .sentinel, .sentinel, .pinned], laidTests := true, laidLooks := .later }
def FnProductOfCardSaid : Prop := Claim7.holds Tryz.pinned (.plain (OpenSpec.ofChange fnProductOfSpec)) fnProductOfCard

/-- THE SECOND FORM's CARD OF 'laws.FnRowsOf'. -/
def fnRowsOfUptoCard : Claim7 := { stood := { row := fnRowsOfUptoRow, standIns := [], harness := (true, "d9cbe5927b889854a646315f791334324c957edec36f6df0d7e58174eea7323a"), looks := true }, kinds := [], alts := [], laidByText := true, laidKinds := [.data, .data, .data, .data, .sentinel, .sentinel, .pinned], laidTests := true, laidLooks := .later }
def FnRowsOfUptoCardSaid : Prop := Claim7.holds Tryz.pinned (.plain (OpenSpec.upto fnRowsOfSpec)) fnRowsOfUptoCard

/-- THE SECOND FORM's CARD OF 'laws.FnProductOf'. -/
def fnProductOfUptoCard : Claim7 := { stood := { row := fnProductOfUptoRow, standIns := [], harness := (true, "d9cbe5927b889854a646315f791334324c957edec36f6df0d7e58174eea7323a"), looks := true }, kinds := [], alts := [], laidByText := true, laidKinds := [.data, .data, .data, .data, .sentinel, .sentinel, .pinned], laidTests := true, laidLooks := .later }
def FnProductOfUptoCardSaid : Prop := Claim7.holds Tryz.pinned (.plain (OpenSpec.upto fnProductOfSpec)) fnProductOfUptoCard
end Rows
end Go.Proofs.YtfmfjbphflkhiaaGreatDoor
