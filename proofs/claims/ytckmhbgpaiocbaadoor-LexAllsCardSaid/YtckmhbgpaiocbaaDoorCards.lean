/-
  DERIVED. GIVEN WITH THE SEED: THE CARDS: each row of YtckmhbgpaiocbaaDoorRows.lean that lists a variable, with what it lists TIED to the program's text (the seventh form; the later family's looks); each row that meets fmt, with fmt's text TOLD by the authors' own Lean function (tested against real Go, not proved from fmt's source: count such statements apart). THE CARD IS WHAT COUNTS. Prove the row's statement (the work); the ties are given (YtckmhbgpaiocbaaDoorTie.lean); close each card by the builder's one call (the guide's Derived/Test/ToyasCard.lean, 'card_holds'). Laid BY PROGRAM, IN A SANDBOX (cutbox-door.mjs). By AI agents, Wed Nov 11 2026. No macro, syntax, notation, axiom, sorry.
-/
import Derived.Test.YtckmhbgpaiocbaaDoorRows
import GoSem.ClaimSeven
namespace Go.Proofs.YtckmhbgpaiocbaaDoor
namespace Rows

/-- THE TIED CARD OF 'tombolalaw15.LexNexts'. -/
def lexNextsCard : Claim7 := { stood := { row := lexNextsRow, standIns := [], harness := (true, "6c16a220ce9d37bbb6da3976ce78f1e9f284187f093cf70bfc2f92a35199cb30"), looks := true }, kinds := [], alts := [], laidByText := true, laidKinds := [.data, .data, .data, .data, .sentinel, .sentinel, .pinned], laidTests := true, laidLooks := .later }
def LexNextsCardSaid : Prop := Claim7.holds Tryd.pinned (.plain (OpenSpec.ofChange lexNextsSpec)) lexNextsCard

/-- THE TIED CARD OF 'tombolalaw15.LexAlls'. -/
def lexAllsCard : Claim7 := { stood := { row := lexAllsRow, standIns := [], harness := (true, "6c16a220ce9d37bbb6da3976ce78f1e9f284187f093cf70bfc2f92a35199cb30"), looks := true }, kinds := [], alts := [], laidByText := true, laidKinds := [.data, .data, .data, .data, .sentinel, .sentinel, .pinned], laidTests := true, laidLooks := .later }
def LexAllsCardSaid : Prop := Claim7.holds Tryd.pinned (.plain (OpenSpec.ofChange lexAllsSpec)) lexAllsCard

/-- THE TIED CARD OF 'tombolalaw15.LexNames'. -/
def lexNamesCard : Claim7 := { stood := { row := lexNamesRow, standIns := [], harness := (true, "6c16a220ce9d37bbb6da3976ce78f1e9f284187f093cf70bfc2f92a35199cb30"), looks := true }, kinds := [], alts := [], laidByText := true, laidKinds := [.data, .data, .data, .data, .sentinel, .sentinel, .pinned], laidTests := true, laidLooks := .later }
def LexNamesCardSaid : Prop := Claim7.holds Tryd.pinned (.plain (OpenSpec.ofChange lexNamesSpec)) lexNamesCard

/-- THE TIED CARD OF 'tombolalaw15.LexBack'. -/
def lexBackCard : Claim7 := { stood := { row := lexBackRow, standIns := [], harness := (true, "6c16a220ce9d37bbb6da3976ce78f1e9f284187f093cf70bfc2f92a35199cb30"), looks := true }, kinds := [], alts := [], laidByText := true, laidKinds := [.data, .data, .data, .data, .sentinel, .sentinel, .pinned], laidTests := true, laidLooks := .later }
def LexBackCardSaid : Prop := Claim7.holds Tryd.pinned (.plain (OpenSpec.ofChange lexBackSpec)) lexBackCard

/-- THE TIED CARD OF 'tombolalaw15.LexParts'. -/
def lexPartsCard : Claim7 := { stood := { row := lexPartsRow, standIns := [], harness := (true, "6c16a220ce9d37bbb6da3976ce78f1e9f284187f093cf70bfc2f92a35199cb30"), looks := true }, kinds := [], alts := [], laidByText := true, laidKinds := [.data, .data, .data, .data, .sentinel, .sentinel, .pinned], laidTests := true, laidLooks := .later }
def LexPartsCardSaid : Prop := Claim7.holds Tryd.pinned (.plain (OpenSpec.ofChange lexPartsSpec)) lexPartsCard

/-- THE TIED CARD OF 'tombolalaw15.LexBlanks'. -/
def lexBlanksCard : Claim7 := { stood := { row := lexBlanksRow, standIns := [], harness := (true, "6c16a220ce9d37bbb6da3976ce78f1e9f284187f093cf70bfc2f92a35199cb30"), looks := true }, kinds := [], alts := [], laidByText := true, laidKinds := [.data, .data, .data, .data, .sentinel, .sentinel, .pinned], laidTests := true, laidLooks := .later }
def LexBlanksCardSaid : Prop := Claim7.holds Tryd.pinned (.plain (OpenSpec.ofChange lexBlanksSpec)) lexBlanksCard

/-- THE TIED CARD OF 'tombolalaw15.LexBytes'. -/
def lexBytesCard : Claim7 := { stood := { row := lexBytesRow, standIns := [], harness := (true, "6c16a220ce9d37bbb6da3976ce78f1e9f284187f093cf70bfc2f92a35199cb30"), looks := true }, kinds := [], alts := [], laidByText := true, laidKinds := [.data, .data, .data, .data, .sentinel, .sentinel, .pinned], laidTests := true, laidLooks := .later }
def LexBytesCardSaid : Prop := Claim7.holds Tryd.pinned (.plain (OpenSpec.ofChange lexBytesSpec)) lexBytesCard

/-- THE TIED CARD OF 'tombolalaw15.LexOne'. -/
def lexOneCard : Claim7 := { stood := { row := lexOneRow, standIns := [], harness := (true, "6c16a220ce9d37bbb6da3976ce78f1e9f284187f093cf70bfc2f92a35199cb30"), looks := true }, kinds := [], alts := [], laidByText := true, laidKinds := [.data, .data, .data, .data, .sentinel, .sentinel, .pinned], laidTests := true, laidLooks := .later }
def LexOneCardSaid : Prop := Claim7.holds Tryd.pinned (.plain (OpenSpec.ofChange lexOneSpec)) lexOneCard

/-- THE SECOND FORM's CARD OF 'tombolalaw15.LexNexts'. -/
def lexNextsUptoCard : Claim7 := { stood := { row := lexNextsUptoRow, standIns := [], harness := (true, "6c16a220ce9d37bbb6da3976ce78f1e9f284187f093cf70bfc2f92a35199cb30"), looks := true }, kinds := [], alts := [], laidByText := true, laidKinds := [.data, .data, .data, .data, .sentinel, .sentinel, .pinned], laidTests := true, laidLooks := .later }
def LexNextsUptoCardSaid : Prop := Claim7.holds Tryd.pinned (.plain (OpenSpec.upto lexNextsSpec)) lexNextsUptoCard

/-- THE SECOND FORM's CARD OF 'tombolalaw15.LexAlls'. -/
def lexAllsUptoCard : Claim7 := { stood := { row := lexAllsUptoRow, standIns := [], harness := (true, "6c16a220ce9d37bbb6da3976ce78f1e9f284187f093cf70bfc2f92a35199cb30"), looks := true }, kinds := [], alts := [], laidByText := true, laidKinds := [.data, .data, .data, .data, .sentinel, .sentinel, .pinned], laidTests := true, laidLooks := .later }
def LexAllsUptoCardSaid : Prop := Claim7.holds Tryd.pinned (.plain (OpenSpec.upto lexAllsSpec)) lexAllsUptoCard

/-- THE SECOND FORM's CARD OF 'tombolalaw15.LexNames'. -/
def lexNamesUptoCard : Claim7 := { stood := { row := lexNamesUptoRow, standIns := [], harness := (true, "6c16a220ce9d37bbb6da3976ce78f1e9f284187f093cf70bfc2f92a35199cb30"), looks := true }, kinds := [], alts := [], laidByText := true, laidKinds := [.data, .data, .data, .data, .sentinel, .sentinel, .pinned], laidTests := true, laidLooks := .later }
def LexNamesUptoCardSaid : Prop := Claim7.holds Tryd.pinned (.plain (OpenSpec.upto lexNamesSpec)) lexNamesUptoCard

/-- THE SECOND FORM's CARD OF 'tombolalaw15.LexBack'. -/
def lexBackUptoCard : Claim7 := { stood := { row := lexBackUptoRow, standIns := [], harness := (true, "6c16a220ce9d37bbb6da3976ce78f1e9f284187f093cf70bfc2f92a35199cb30"), looks := true }, kinds := [], alts := [], laidByText := true, laidKinds := [.data, .data, .data, .data, .sentinel, .sentinel, .pinned], laidTests := true, laidLooks := .later }
def LexBackUptoCardSaid : Prop := Claim7.holds Tryd.pinned (.plain (OpenSpec.upto lexBackSpec)) lexBackUptoCard

/-- THE SECOND FORM's CARD OF 'tombolalaw15.LexParts'. -/
def lexPartsUptoCard : Claim7 := { stood := { row := lexPartsUptoRow, standIns := [], harness := (true, "6c16a220ce9d37bbb6da3976ce78f1e9f284187f093cf70bfc2f92a35199cb30"), looks := true }, kinds := [], alts := [], laidByText := true, laidKinds := [.data, .data, .data, .data, .sentinel, .sentinel, .pinned], laidTests := true, laidLooks := .later }
def LexPartsUptoCardSaid : Prop := Claim7.holds Tryd.pinned (.plain (OpenSpec.upto lexPartsSpec)) lexPartsUptoCard

/-- THE SECOND FORM's CARD OF 'tombolalaw15.LexBlanks'. -/
def lexBlanksUptoCard : Claim7 := { stood := { row := lexBlanksUptoRow, standIns := [], harness := (true, "6c16a220ce9d37bbb6da3976ce78f1e9f284187f093cf70bfc2f92a35199cb30"), looks := true }, kinds := [], alts := [], laidByText := true, laidKinds := [.data, .data, .data, .data, .sentinel, .sentinel, .pinned], laidTests := true, laidLooks := .later }
def LexBlanksUptoCardSaid : Prop := Claim7.holds Tryd.pinned (.plain (OpenSpec.upto lexBlanksSpec)) lexBlanksUptoCard

/-- THE SECOND FORM's CARD OF 'tombolalaw15.LexBytes'. -/
def lexBytesUptoCard : Claim7 := { stood := { row := lexBytesUptoRow, standIns := [], harness := (true, "6c16a220ce9d37bbb6da3976ce78f1e9f284187f093cf70bfc2f92a35199cb30"), looks := true }, kinds := [], alts := [], laidByText := true, laidKinds := [.data, .data, .data, .data, .sentinel, .sentinel, .pinned], laidTests := true, laidLooks := .later }
def LexBytesUptoCardSaid : Prop := Claim7.holds Tryd.pinned (.plain (OpenSpec.upto lexBytesSpec)) lexBytesUptoCard

/-- THE SECOND FORM's CARD OF 'tombolalaw15.LexOne'. -/
def lexOneUptoCard : Claim7 := { stood := { row := lexOneUptoRow, standIns := [], harness := (true, "6c16a220ce9d37bbb6da3976ce78f1e9f284187f093cf70bfc2f92a35199cb30"), looks := true }, kinds := [], alts := [], laidByText := true, laidKinds := [.data, .data, .data, .data, .sentinel, .sentinel, .pinned], laidTests := true, laidLooks := .later }
def LexOneUptoCardSaid : Prop := Claim7.holds Tryd.pinned (.plain (OpenSpec.upto lexOneSpec)) lexOneUptoCard
end Rows
end Go.Proofs.YtckmhbgpaiocbaaDoor
