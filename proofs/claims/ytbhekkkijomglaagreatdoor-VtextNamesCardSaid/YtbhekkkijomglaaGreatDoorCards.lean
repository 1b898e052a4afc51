/-
  DERIVED. GIVEN WITH THE SEED: THE CARDS: each row of YtbhekkkijomglaaGreatDoorRows.lean that lists a variable, with what it lists TIED to the program's text (the seventh form; the later family's looks); each row that meets fmt, with fmt's text TOLD by the authors' own Lean function (tested against real Go, not proved from fmt's source: count such statements apart). THE CARD IS WHAT COUNTS. Prove the row's statement (the work); the ties are given (YtbhekkkijomglaaGreatDoorTie.lean); close each card by the builder's one call (the guide's Derived/Test/ToyasCard.lean, 'card_holds'). Laid BY PROGRAM, IN A SANDBOX (cutbox-door.mjs). By AI agents, Wed Nov 11 2026. No macro, syntax, notation, axiom, sorry.
-/
import Derived.Test.YtbhekkkijomglaaGreatDoorRows
import GoSem.ClaimSeven
namespace Go.Proofs.YtbhekkkijomglaaGreatDoor
namespace Rows

/-- THE TIED CARD OF 'tombolalaw16.VtextShows'. -/
def vtextShowsCard : Claim7 := { stood := { row := vtextShowsRow, standIns := [], harness := (true, "90e0e8cb468041fdc14d7057df852d1f9f28c7cabff775f2f212993402a21eec"), looks := true }, kinds := [], alts := [], laidByText := true, laidKinds := [.data, .data, .data, .data, .sentinel, .sentinel, .pinned], laidTests := true, laidLooks := .later }
def VtextShowsCardSaid : Prop := Claim7.holds Tryz.pinned (.plain (OpenSpec.ofChange vtextShowsSpec)) vtextShowsCard

/-- THE TIED CARD OF 'tombolalaw16.VtextReads'. -/
def vtextReadsCard : Claim7 := { stood := { row := vtextReadsRow, standIns := [], harness := (true, "90e0e8cb468041fdc14d7057df852d1f9f28c7cabff775f2f212993402a21eec"), looks := true }, kinds := [], alts := [], laidByText := true, laidKinds := [.data, .data, .data, .data, .sentinel, .sentinel, .pinned], laidTests := true, laidLooks := .later }
def VtextReadsCardSaid : Prop := Claim7.holds Tryz.pinned (.plain (OpenSpec.ofChange vtextReadsSpec)) vtextReadsCard

/-- THE TIED CARD OF 'tombolalaw16.VtextNames'. -/
def vtextNamesCard : Claim7 := { stood := { row := vtextNamesRow, standIns := [], harness := (true, "90e0e8cb468041fdc14d7057df852d1f9f28c7cabff775f2f212993402a21eec"), looks := true }, kinds := [], alts := [], laidByText := true, laidKinds := [.data, .data, .data, .data, .sentinel, .sentinel, .pinned], laidTests := true, laidLooks := .later }
def VtextNamesCardSaid : Prop := Claim7.holds Tryz.pinned (.plain (OpenSpec.ofChange vtextNamesSpec)) vtextNamesCard

/-- THE TIED CARD OF 'tombolalaw16.VtextPart'. -/
def vtextPartCard : Claim7 := { stood := { row := vtextPartRow, standIns := [], harness := (true, "90e0e8cb468041fdc14d7057df852d1f9f28c7cabff775f2f212993402a21eec"), looks := true }, kinds := [], alts := [], laidByText := true, laidKinds := [.data, .data, .data, .data, .sentinel, .sentinel, .pinned], laidTests := true, laidLooks := .later }
def VtextPartCardSaid : Prop := Claim7.holds Tryz.pinned (.plain (OpenSpec.ofChange vtextPartSpec)) vtextPartCard

/-- THE TIED CARD OF 'tombolalaw16.VtextFirst'. -/
def vtextFirstCard : Claim7 := { stood := { row := vtextFirstRow, standIns := [], harness := (true, "90e0e8cb468041fdc14d7057df852d1f9f28c7cabff775f2f212993402a21eec"), looks := true }, kinds := [], alts := [], laidByText := true, laidKinds := [.data, .data, .data, .data, .sentinel, .sentinel, .pinned], laidTests := true, laidLooks := .later }
def VtextFirstCardSaid : Prop := Claim7.holds Tryz.pinned (.plain (OpenSpec.ofChange vtextFirstSpec)) vtextFirstCard

/-- THE TIED CARD OF 'tombolalaw16.VtextCut'. -/
def vtextCutCard : Claim7 := { stood := { row := vtextCutRow, standIns := [], harness := (true, "90e0e8cb468041fdc14d7057df852d1f9f28c7cabff775f2f212993402a21eec"), looks := true }, kinds := [], alts := [], laidByText := true, laidKinds := [.data, .data, .data, .data, .sentinel, .sentinel, .pinned], laidTests := true, laidLooks := .later }
def VtextCutCardSaid : Prop := Claim7.holds Tryz.pinned (.plain (OpenSpec.ofChange vtextCutSpec)) vtextCutCard

/-- THE TIED CARD OF 'tombolalaw16.VtextBack'. -/
def vtextBackCard : Claim7 := { stood := { row := vtextBackRow, standIns := [], harness := (true, "90e0e8cb468041fdc14d7057df852d1f9f28c7cabff775f2f212993402a21eec"), looks := true }, kinds := [], alts := [], laidByText := true, laidKinds := [.data, .data, .data, .data, .sentinel, .sentinel, .pinned], laidTests := true, laidLooks := .later }
def VtextBackCardSaid : Prop := Claim7.holds Tryz.pinned (.plain (OpenSpec.ofChange vtextBackSpec)) vtextBackCard

/-- THE TIED CARD OF 'tombolalaw16.VtextBlanks'. -/
def vtextBlanksCard : Claim7 := { stood := { row := vtextBlanksRow, standIns := [], harness := (true, "90e0e8cb468041fdc14d7057df852d1f9f28c7cabff775f2f212993402a21eec"), looks := true }, kinds := [], alts := [], laidByText := true, laidKinds := [.data, .data, .data, .data, .sentinel, .sentinel, .pinned], laidTests := true, laidLooks := .later }
def VtextBlanksCardSaid : Prop := Claim7.holds Tryz.pinned (.plain (OpenSpec.ofChange vtextBlanksSpec)) vtextBlanksCard

/-- THE SECOND FORM's CARD OF 'tombolalaw16.VtextShows'. -/
def vtextShowsUptoCard : Claim7 := { stood := { row := vtextShowsUptoRow, standIns := [], harness := (true, "90e0e8cb468041fdc14d7057df852d1f9f28c7cabff775f2f212993402a21eec"), looks := true }, kinds := [], alts := [], laidByText := true, laidKinds := [.data, .data, .data, .data, .sentinel, .sentinel, .pinned], laidTests := true, laidLooks := .later }
def VtextShowsUptoCardSaid : Prop := Claim7.holds Tryz.pinned (.plain (OpenSpec.upto vtextShowsSpec)) vtextShowsUptoCard

/-- THE SECOND FORM's CARD OF 'tombolalaw16.VtextReads'. -/
def vtextReadsUptoCard : Claim7 := { stood := { row := vtextReadsUptoRow, standIns := [], harness := (true, "90e0e8cb468041fdc14d7057df852d1f9f28c7cabff775f2f212993402a21eec"), looks := true }, kinds := [], alts := [], laidByText := true, laidKinds := [.data, .data, .data, .data, .sentinel, .sentinel, .pinned], laidTests := true, laidLooks := .later }
def VtextReadsUptoCardSaid : Prop := Claim7.holds Tryz.pinned (.plain (OpenSpec.upto vtextReadsSpec)) vtextReadsUptoCard

/-- THE SECOND FORM's CARD OF 'tombolalaw16.VtextNames'. -/
def vtextNamesUptoCard : Claim7 := { stood := { row := vtextNamesUptoRow, standIns := [], harness := (true, "90e0e8cb468041fdc14d7057df852d1f9f28c7cabff775f2f212993402a21eec"), looks := true }, kinds := [], alts := [], laidByText := true, laidKinds := [.data, .data, .data, .data, .sentinel, .sentinel, .pinned], laidTests := true, laidLooks := .later }
def VtextNamesUptoCardSaid : Prop := Claim7.holds Tryz.pinned (.plain (OpenSpec.upto vtextNamesSpec)) vtextNamesUptoCard

/-- THE SECOND FORM's CARD OF 'tombolalaw16.VtextPart'. -/
def vtextPartUptoCard : Claim7 := { stood := { row := vtextPartUptoRow, standIns := [], harness := (true, "90e0e8cb468041fdc14d7057df852d1f9f28c7cabff775f2f212993402a21eec"), looks := true }, kinds := [], alts := [], laidByText := true, laidKinds := [.data, .data, .data, .data, .sentinel, .sentinel, .pinned], laidTests := true, laidLooks := .later }
def VtextPartUptoCardSaid : Prop := Claim7.holds Tryz.pinned (.plain (OpenSpec.upto vtextPartSpec)) vtextPartUptoCard

/-- THE SECOND FORM's CARD OF 'tombolalaw16.VtextFirst'. -/
def vtextFirstUptoCard : Claim7 := { stood := { row := vtextFirstUptoRow, standIns := [], harness := (true, "90e0e8cb468041fdc14d7057df852d1f9f28c7cabff775f2f212993402a21eec"), looks := true }, kinds := [], alts := [], laidByText := true, laidKinds := [.data, .data, .data, .data, .sentinel, .sentinel, .pinned], laidTests := true, laidLooks := .later }
def VtextFirstUptoCardSaid : Prop := Claim7.holds Tryz.pinned (.plain (OpenSpec.upto vtextFirstSpec)) vtextFirstUptoCard

/-- THE SECOND FORM's CARD OF 'tombolalaw16.VtextCut'. -/
def vtextCutUptoCard : Claim7 := { stood := { row := vtextCutUptoRow, standIns := [], harness := (true, "90e0e8cb468041fdc14d7057df852d1f9f28c7cabff775f2f212993402a21eec"), looks := true }, kinds := [], alts := [], laidByText := true, laidKinds := [.data, .data, .data, .data, .sentinel, .sentinel, .pinned], laidTests := true, laidLooks := .later }
def VtextCutUptoCardSaid : Prop := Claim7.holds Tryz.pinned (.plain (OpenSpec.upto vtextCutSpec)) vtextCutUptoCard

/-- THE SECOND FORM's CARD OF 'tombolalaw16.VtextBack'. -/
def vtextBackUptoCard : Claim7 := { stood := { row := vtextBackUptoRow, standIns := [], harness := (true, "90e0e8cb468041fdc14d7057df852d1f9f28c7cabff775f2f212993402a21eec"), looks := true }, kinds := [], alts := [], laidByText := true, laidKinds := [.data, .data, .data, .data, .sentinel, .sentinel, .pinned], laidTests := true, laidLooks := .later }
def VtextBackUptoCardSaid : Prop := Claim7.holds Tryz.pinned (.plain (OpenSpec.upto vtextBackSpec)) vtextBackUptoCard

/-- THE SECOND FORM's CARD OF 'tombolalaw16.VtextBlanks'. -/
def vtextBlanksUptoCard : Claim7 := { stood := { row := vtextBlanksUptoRow, standIns := [], harness := (true, "90e0e8cb468041fdc14d7057df852d1f9f28c7cabff775f2f212993402a21eec"), looks := true }, kinds := [], alts := [], laidByText := true, laidKinds := [.data, .data, .data, .data, .sentinel, .sentinel, .pinned], laidTests := true, laidLooks := .later }
def VtextBlanksUptoCardSaid : Prop := Claim7.holds Tryz.pinned (.plain (OpenSpec.upto vtextBlanksSpec)) vtextBlanksUptoCard
end Rows
end Go.Proofs.YtbhekkkijomglaaGreatDoor
