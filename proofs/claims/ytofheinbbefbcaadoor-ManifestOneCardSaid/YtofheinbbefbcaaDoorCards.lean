/-
  DERIVED. GIVEN WITH THE SEED: THE CARDS: each row of YtofheinbbefbcaaDoorRows.lean that lists a variable, with what it lists TIED to the program's text (the seventh form; the later family's looks); each row that meets fmt, with fmt's text TOLD by the authors' own Lean function (tested against real Go, not proved from fmt's source: count such statements apart). THE CARD IS WHAT COUNTS. Prove the row's statement (the work); the ties are given (YtofheinbbefbcaaDoorTie.lean); close each card by the builder's one call (the guide's Derived/Test/ToyasCard.lean, 'card_holds'). Laid BY PROGRAM, IN A SANDBOX (cutbox-door.mjs). By AI agents, Wed Nov 11 2026. No macro, syntax, notation, axiom, sorry.
-/
import Derived.Test.YtofheinbbefbcaaDoorRows
import GoSem.ClaimSeven
namespace Go.Proofs.YtofheinbbefbcaaDoor
namespace Rows

/-- THE TIED CARD OF 'moultlaw07.OneTells'. -/
def oneTellsCard : Claim7 := { stood := { row := oneTellsRow, standIns := [], harness := (true, "a712150675377346424344f61f74ece4b8c9d9842df0b8529c0007104a46ccb1"), looks := false }, kinds := [], alts := [], laidByText := true, laidKinds := [.data], laidTests := true, laidLooks := .later }
def OneTellsCardSaid : Prop := Claim7.holds Tryd.pinned (.plain (OpenSpec.ofChange oneTellsSpec)) oneTellsCard

/-- THE TIED CARD OF 'moultlaw07.OneBack'. -/
def oneBackCard : Claim7 := { stood := { row := oneBackRow, standIns := [], harness := (true, "a712150675377346424344f61f74ece4b8c9d9842df0b8529c0007104a46ccb1"), looks := false }, kinds := [], alts := [], laidByText := true, laidKinds := [.data], laidTests := true, laidLooks := .later }
def OneBackCardSaid : Prop := Claim7.holds Tryd.pinned (.plain (OpenSpec.ofChange oneBackSpec)) oneBackCard

/-- THE TIED CARD OF 'moultlaw07.OneOnly'. -/
def oneOnlyCard : Claim7 := { stood := { row := oneOnlyRow, standIns := [], harness := (true, "a712150675377346424344f61f74ece4b8c9d9842df0b8529c0007104a46ccb1"), looks := false }, kinds := [], alts := [], laidByText := true, laidKinds := [.data], laidTests := true, laidLooks := .later }
def OneOnlyCardSaid : Prop := Claim7.holds Tryd.pinned (.plain (OpenSpec.ofChange oneOnlySpec)) oneOnlyCard

/-- THE TIED CARD OF 'moultlaw07.OneMore'. -/
def oneMoreCard : Claim7 := { stood := { row := oneMoreRow, standIns := [], harness := (true, "a712150675377346424344f61f74ece4b8c9d9842df0b8529c0007104a46ccb1"), looks := false }, kinds := [], alts := [], laidByText := true, laidKinds := [.data], laidTests := true, laidLooks := .later }
def OneMoreCardSaid : Prop := Claim7.holds Tryd.pinned (.plain (OpenSpec.ofChange oneMoreSpec)) oneMoreCard

/-- THE TIED CARD OF 'moultlaw07.OneApart'. -/
def oneApartCard : Claim7 := { stood := { row := oneApartRow, standIns := [], harness := (true, "a712150675377346424344f61f74ece4b8c9d9842df0b8529c0007104a46ccb1"), looks := false }, kinds := [], alts := [], laidByText := true, laidKinds := [.data], laidTests := true, laidLooks := .later }
def OneApartCardSaid : Prop := Claim7.holds Tryd.pinned (.plain (OpenSpec.ofChange oneApartSpec)) oneApartCard

/-- THE TIED CARD OF 'moultlaw11.ManifestBack'. -/
def manifestBackCard : Claim7 := { stood := { row := manifestBackRow, standIns := [], harness := (true, "a712150675377346424344f61f74ece4b8c9d9842df0b8529c0007104a46ccb1"), looks := false }, kinds := [], alts := [], laidByText := true, laidKinds := [.data], laidTests := true, laidLooks := .later }
def ManifestBackCardSaid : Prop := Claim7.holds Tryd.pinned (.plain (OpenSpec.ofChange manifestBackSpec)) manifestBackCard

/-- THE TIED CARD OF 'moultlaw11.ManifestOnly'. -/
def manifestOnlyCard : Claim7 := { stood := { row := manifestOnlyRow, standIns := [], harness := (true, "a712150675377346424344f61f74ece4b8c9d9842df0b8529c0007104a46ccb1"), looks := false }, kinds := [], alts := [], laidByText := true, laidKinds := [.data], laidTests := true, laidLooks := .later }
def ManifestOnlyCardSaid : Prop := Claim7.holds Tryd.pinned (.plain (OpenSpec.ofChange manifestOnlySpec)) manifestOnlyCard

/-- THE TIED CARD OF 'moultlaw11.ManifestNames'. -/
def manifestNamesCard : Claim7 := { stood := { row := manifestNamesRow, standIns := [], harness := (true, "a712150675377346424344f61f74ece4b8c9d9842df0b8529c0007104a46ccb1"), looks := false }, kinds := [], alts := [], laidByText := true, laidKinds := [.data], laidTests := true, laidLooks := .later }
def ManifestNamesCardSaid : Prop := Claim7.holds Tryd.pinned (.plain (OpenSpec.ofChange manifestNamesSpec)) manifestNamesCard

/-- THE TIED CARD OF 'moultlaw11.ManifestOne'. -/
def manifestOneCard : Claim7 := { stood := { row := manifestOneRow, standIns := [], harness := (true, "a712150675377346424344f61f74ece4b8c9d9842df0b8529c0007104a46ccb1"), looks := false }, kinds := [], alts := [], laidByText := true, laidKinds := [.data], laidTests := true, laidLooks := .later }
def ManifestOneCardSaid : Prop := Claim7.holds Tryd.pinned (.plain (OpenSpec.ofChange manifestOneSpec)) manifestOneCard

/-- THE TIED CARD OF 'moultlaw11.ManifestTells'. -/
def manifestTellsCard : Claim7 := { stood := { row := manifestTellsRow, standIns := [], harness := (true, "a712150675377346424344f61f74ece4b8c9d9842df0b8529c0007104a46ccb1"), looks := false }, kinds := [], alts := [], laidByText := true, laidKinds := [.data], laidTests := true, laidLooks := .later }
def ManifestTellsCardSaid : Prop := Claim7.holds Tryd.pinned (.plain (OpenSpec.ofChange manifestTellsSpec)) manifestTellsCard

/-- THE SECOND FORM's CARD OF 'moultlaw07.OneTells'. -/
def oneTellsUptoCard : Claim7 := { stood := { row := oneTellsUptoRow, standIns := [], harness := (true, "a712150675377346424344f61f74ece4b8c9d9842df0b8529c0007104a46ccb1"), looks := false }, kinds := [], alts := [], laidByText := true, laidKinds := [.data], laidTests := true, laidLooks := .later }
def OneTellsUptoCardSaid : Prop := Claim7.holds Tryd.pinned (.plain (OpenSpec.upto oneTellsSpec)) oneTellsUptoCard

/-- THE SECOND FORM's CARD OF 'moultlaw07.OneBack'. -/
def oneBackUptoCard : Claim7 := { stood := { row := oneBackUptoRow, standIns := [], harness := (true, "a712150675377346424344f61f74ece4b8c9d9842df0b8529c0007104a46ccb1"), looks := false }, kinds := [], alts := [], laidByText := true, laidKinds := [.data], laidTests := true, laidLooks := .later }
def OneBackUptoCardSaid : Prop := Claim7.holds Tryd.pinned (.plain (OpenSpec.upto oneBackSpec)) oneBackUptoCard

/-- THE SECOND FORM's CARD OF 'moultlaw07.OneOnly'. -/
def oneOnlyUptoCard : Claim7 := { stood := { row := oneOnlyUptoRow, standIns := [], harness := (true, "a712150675377346424344f61f74ece4b8c9d9842df0b8529c0007104a46ccb1"), looks := false }, kinds := [], alts := [], laidByText := true, laidKinds := [.data], laidTests := true, laidLooks := .later }
def OneOnlyUptoCardSaid : Prop := Claim7.holds Tryd.pinned (.plain (OpenSpec.upto oneOnlySpec)) oneOnlyUptoCard

/-- THE SECOND FORM's CARD OF 'moultlaw07.OneMore'. -/
def oneMoreUptoCard : Claim7 := { stood := { row := oneMoreUptoRow, standIns := [], harness := (true, "a712150675377346424344f61f74ece4b8c9d9842df0b8529c0007104a46ccb1"), looks := false }, kinds := [], alts := [], laidByText := true, laidKinds := [.data], laidTests := true, laidLooks := .later }
def OneMoreUptoCardSaid : Prop := Claim7.holds Tryd.pinned (.plain (OpenSpec.upto oneMoreSpec)) oneMoreUptoCard

/-- THE SECOND FORM's CARD OF 'moultlaw07.OneApart'. -/
def oneApartUptoCard : Claim7 := { stood := { row := oneApartUptoRow, standIns := [], harness := (true, "a712150675377346424344f61f74ece4b8c9d9842df0b8529c0007104a46ccb1"), looks := false }, kinds := [], alts := [], laidByText := true, laidKinds := [.data], laidTests := true, laidLooks := .later }
def OneApartUptoCardSaid : Prop := Claim7.holds Tryd.pinned (.plain (OpenSpec.upto oneApartSpec)) oneApartUptoCard

/-- THE SECOND FORM's CARD OF 'moultlaw11.ManifestBack'. -/
def manifestBackUptoCard : Claim7 := { stood := { row := manifestBackUptoRow, standIns := [], harness := (true, "a712150675377346424344f61f74ece4b8c9d9842df0b8529c0007104a46ccb1"), looks := false }, kinds := [], alts := [], laidByText := true, laidKinds := [.data], laidTests := true, laidLooks := .later }
def ManifestBackUptoCardSaid : Prop := Claim7.holds Tryd.pinned (.plain (OpenSpec.upto manifestBackSpec)) manifestBackUptoCard

/-- THE SECOND FORM's CARD OF 'moultlaw11.ManifestOnly'. -/
def manifestOnlyUptoCard : Claim7 := { stood := { row := manifestOnlyUptoRow, standIns := [], harness := (true, "a712150675377346424344f61f74ece4b8c9d9842df0b8529c0007104a46ccb1"), looks := false }, kinds := [], alts := [], laidByText := true, laidKinds := [.data], laidTests := true, laidLooks := .later }
def ManifestOnlyUptoCardSaid : Prop := Claim7.holds Tryd.pinned (.plain (OpenSpec.upto manifestOnlySpec)) manifestOnlyUptoCard

/-- THE SECOND FORM's CARD OF 'moultlaw11.ManifestNames'. -/
def manifestNamesUptoCard : Claim7 := { stood := { row := manifestNamesUptoRow, standIns := [], harness := (true, "a712150675377346424344f61f74ece4b8c9d9842df0b8529c0007104a46ccb1"), looks := false }, kinds := [], alts := [], laidByText := true, laidKinds := [.data], laidTests := true, laidLooks := .later }
def ManifestNamesUptoCardSaid : Prop := Claim7.holds Tryd.pinned (.plain (OpenSpec.upto manifestNamesSpec)) manifestNamesUptoCard

/-- THE SECOND FORM's CARD OF 'moultlaw11.ManifestOne'. -/
def manifestOneUptoCard : Claim7 := { stood := { row := manifestOneUptoRow, standIns := [], harness := (true, "a712150675377346424344f61f74ece4b8c9d9842df0b8529c0007104a46ccb1"), looks := false }, kinds := [], alts := [], laidByText := true, laidKinds := [.data], laidTests := true, laidLooks := .later }
def ManifestOneUptoCardSaid : Prop := Claim7.holds Tryd.pinned (.plain (OpenSpec.upto manifestOneSpec)) manifestOneUptoCard

/-- THE SECOND FORM's CARD OF 'moultlaw11.ManifestTells'. -/
def manifestTellsUptoCard : Claim7 := { stood := { row := manifestTellsUptoRow, standIns := [], harness := (true, "a712150675377346424344f61f74ece4b8c9d9842df0b8529c0007104a46ccb1"), looks := false }, kinds := [], alts := [], laidByText := true, laidKinds := [.data], laidTests := true, laidLooks := .later }
def ManifestTellsUptoCardSaid : Prop := Claim7.holds Tryd.pinned (.plain (OpenSpec.upto manifestTellsSpec)) manifestTellsUptoCard
end Rows
end Go.Proofs.YtofheinbbefbcaaDoor
