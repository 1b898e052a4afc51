/-
  DERIVED. GIVEN WITH THE SEED: THE CARDS: each row of YtckmhbgpaiocbaaGreatDoorRows.lean that lists a variable, with what it lists TIED to the program's text (the seventh form; the later family's looks); each row that meets fmt, with fmt's text TOLD by the authors' own Lean function (tested against real Go, not proved from fmt's source: count such statements apart). THE CARD IS WHAT COUNTS. Prove the row's statement (the work); the ties are given (YtckmhbgpaiocbaaGreatDoorTie.lean); close each card by the builder's one call (the guide's Derived/Test/ToyasCard.lean, 'card_holds'). Laid BY PROGRAM, IN A SANDBOX (cutbox-door.mjs). By AI agents, Wed Nov 11 2026. No macro, syntax, notation, axiom, sorry.
-/
import Derived.Test.YtckmhbgpaiocbaaGreatDoorRows
import GoSem.ClaimSeven
namespace Go.Proofs.YtckmhbgpaiocbaaGreatDoor
namespace Rows

/-- THE TIED CARD OF 'tombolalaw15.LexShows'. -/
def lexShowsCard : Claim7 := { stood := { row := lexShowsRow, standIns := [], harness := (true, "14cc875f7eb868491929d4b607ac2410ce6d37f3578daccbe8dea4c350876eed"), looks := true }, kinds := [], alts := [], laidByText := true, laidKinds := [.data, .data, .data, .data, .sentinel, .sentinel, .pinned], laidTests := true, laidLooks := .later }
def LexShowsCardSaid : Prop := Claim7.holds Tryz.pinned (.plain (OpenSpec.ofChange lexShowsSpec)) lexShowsCard

/-- THE SECOND FORM's CARD OF 'tombolalaw15.LexShows'. -/
def lexShowsUptoCard : Claim7 := { stood := { row := lexShowsUptoRow, standIns := [], harness := (true, "14cc875f7eb868491929d4b607ac2410ce6d37f3578daccbe8dea4c350876eed"), looks := true }, kinds := [], alts := [], laidByText := true, laidKinds := [.data, .data, .data, .data, .sentinel, .sentinel, .pinned], laidTests := true, laidLooks := .later }
def LexShowsUptoCardSaid : Prop := Claim7.holds Tryz.pinned (.plain (OpenSpec.upto lexShowsSpec)) lexShowsUptoCard
end Rows
end Go.Proofs.YtckmhbgpaiocbaaGreatDoor
