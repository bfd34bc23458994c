/-
  DERIVED. GIVEN WITH THE SEED: THE CARDS: each row of YtefpagijgiggmaaDoorRows.lean that lists a variable, with what it lists TIED to the program's text (the seventh form; the later family's looks); each row that meets fmt, with fmt's text TOLD by the authors' own Lean function (tested against real Go, not proved from fmt's source: count such statements apart). THE CARD IS WHAT COUNTS. Prove the row's statement (the work); the ties are given (YtefpagijgiggmaaDoorTie.lean); close each card by the builder's one call (the guide's Derived/Test/ToyasCard.lean, 'card_holds'). Laid BY PROGRAM, IN A SANDBOX (cutbox-door.mjs). By AI agents, Wed Nov 11 2026. No macro, syntax, notation, axiom, sorry.
-/
import Derived.Test.YtefpagijgiggmaaDoorRows
import GoSem.ClaimSeven
namespace Go.Proofs.YtefpagijgiggmaaDoor
namespace Rows

/-- THE TIED CARD OF 'moultlaw06.EntryFine'. -/
def entryFineCard : Claim7 := { stood := { row := entryFineRow, standIns := [], harness := (true, "aa83526b751f1e4bd3722463028de1f7b410092731c138871a66d36f3132064a"), looks := false }, kinds := [], alts := [], laidByText := true, laidKinds := [.data], laidTests := true, laidLooks := .later }
def EntryFineCardSaid : Prop := Claim7.holds Tryd.pinned (.plain (OpenSpec.ofChange entryFineSpec)) entryFineCard

/-- THE TIED CARD OF 'moultlaw06.EntryParts'. -/
def entryPartsCard : Claim7 := { stood := { row := entryPartsRow, standIns := [], harness := (true, "aa83526b751f1e4bd3722463028de1f7b410092731c138871a66d36f3132064a"), looks := false }, kinds := [], alts := [], laidByText := true, laidKinds := [.data], laidTests := true, laidLooks := .later }
def EntryPartsCardSaid : Prop := Claim7.holds Tryd.pinned (.plain (OpenSpec.ofChange entryPartsSpec)) entryPartsCard

/-- THE TIED CARD OF 'moultlaw06.EntrySums'. -/
def entrySumsCard : Claim7 := { stood := { row := entrySumsRow, standIns := [], harness := (true, "aa83526b751f1e4bd3722463028de1f7b410092731c138871a66d36f3132064a"), looks := false }, kinds := [], alts := [], laidByText := true, laidKinds := [.data], laidTests := true, laidLooks := .later }
def EntrySumsCardSaid : Prop := Claim7.holds Tryd.pinned (.plain (OpenSpec.ofChange entrySumsSpec)) entrySumsCard

/-- THE TIED CARD OF 'moultlaw06.EntryLevels'. -/
def entryLevelsCard : Claim7 := { stood := { row := entryLevelsRow, standIns := [], harness := (true, "aa83526b751f1e4bd3722463028de1f7b410092731c138871a66d36f3132064a"), looks := false }, kinds := [], alts := [], laidByText := true, laidKinds := [.data], laidTests := true, laidLooks := .later }
def EntryLevelsCardSaid : Prop := Claim7.holds Tryd.pinned (.plain (OpenSpec.ofChange entryLevelsSpec)) entryLevelsCard

/-- THE SECOND FORM's CARD OF 'moultlaw06.EntryFine'. -/
def entryFineUptoCard : Claim7 := { stood := { row := entryFineUptoRow, standIns := [], harness := (true, "aa83526b751f1e4bd3722463028de1f7b410092731c138871a66d36f3132064a"), looks := false }, kinds := [], alts := [], laidByText := true, laidKinds := [.data], laidTests := true, laidLooks := .later }
def EntryFineUptoCardSaid : Prop := Claim7.holds Tryd.pinned (.plain (OpenSpec.upto entryFineSpec)) entryFineUptoCard

/-- THE SECOND FORM's CARD OF 'moultlaw06.EntryParts'. -/
def entryPartsUptoCard : Claim7 := { stood := { row := entryPartsUptoRow, standIns := [], harness := (true, "aa83526b751f1e4bd3722463028de1f7b410092731c138871a66d36f3132064a"), looks := false }, kinds := [], alts := [], laidByText := true, laidKinds := [.data], laidTests := true, laidLooks := .later }
def EntryPartsUptoCardSaid : Prop := Claim7.holds Tryd.pinned (.plain (OpenSpec.upto entryPartsSpec)) entryPartsUptoCard

/-- THE SECOND FORM's CARD OF 'moultlaw06.EntrySums'. -/
def entrySumsUptoCard : Claim7 := { stood := { row := entrySumsUptoRow, standIns := [], harness := (true, "aa83526b751f1e4bd3722463028de1f7b410092731c138871a66d36f3132064a"), looks := false }, kinds := [], alts := [], laidByText := true, laidKinds := [.data], laidTests := true, laidLooks := .later }
def EntrySumsUptoCardSaid : Prop := Claim7.holds Tryd.pinned (.plain (OpenSpec.upto entrySumsSpec)) entrySumsUptoCard

/-- THE SECOND FORM's CARD OF 'moultlaw06.EntryLevels'. -/
def entryLevelsUptoCard : Claim7 := { stood := { row := entryLevelsUptoRow, standIns := [], harness := (true, "aa83526b751f1e4bd3722463028de1f7b410092731c138871a66d36f3132064a"), looks := false }, kinds := [], alts := [], laidByText := true, laidKinds := [.data], laidTests := true, laidLooks := .later }
def EntryLevelsUptoCardSaid : Prop := Claim7.holds Tryd.pinned (.plain (OpenSpec.upto entryLevelsSpec)) entryLevelsUptoCard
end Rows
end Go.Proofs.YtefpagijgiggmaaDoor
