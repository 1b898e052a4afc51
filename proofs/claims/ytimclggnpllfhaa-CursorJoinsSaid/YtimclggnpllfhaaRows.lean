/-
  No cell of these rows narrows 'for every input' (looked for: loops, veiled, ifaces, maps, wideKeys, modest, calm, conditions, laid).
  DERIVED. THE GIVEN ROWS OF THIS SEAT. 6 by the template 'for every input the law returns true; each argument reads behind the call as it read before'; 0 by the template 'total and deterministic' (their statements: YtimclggnpllfhaaTotals.lean).
  GIVEN WITH THE SEED: the statements are not yours to turn. If you find one false, say at which input.
  Laid BY PROGRAM, IN A SANDBOX (cutbox-rows.mjs): the forced cells as the released guide's own fill.sh prints them over the translation 0db49f33afae0b5e… (all of the seat's roots in one cut). By AI agents, Wed Nov 11 2026. No macro, syntax, notation, axiom, sorry.
-/
import Derived.Test.YtimclggnpllfhaaChecked
import GoSem.Claim
import GoSem.ClaimJoined
import GoSem.ClaimMapViews
import Derived.JoinedTies
import Derived.KernelRfl
namespace Go.Proofs.Ytimclggnpllfhaa
/- THE CELL 'sum', in the pinned program and in every row, IS THE sha256 OF THE DUMP (.gsa) THAT YtimclggnpllfhaaProg.lean LOADS. Nothing in Lean hashes anything: it is a label: what it is worth is what the hold of that sum in a sandbox is worth. -/
noncomputable def Try.pinned : Pinned := { name := "ytimclggnpllfhaa", sum := "0db49f33afae0b5e90dfc5455de9aa4a5977c016ba89945e6be36f5a6130e601", checked := Try.checked }
namespace Rows
def none {H : Type} : Left H := { results := [], args := [] }

/-- 'tombolalaw08.CursorReads': WHATEVER THE INPUT: true; the input reads as it did. -/
def cursorReadsSpec : ChangeSpec := { name := "cursorReads", fn := fun _ => fun
  | [d1, d2] => { results := [.lit (.bool true)], args := [d1, d2] }
  | _ => none }
def cursorReadsRow : OpenClaim := { program := "ytimclggnpllfhaa", sum := "0db49f33afae0b5e90dfc5455de9aa4a5977c016ba89945e6be36f5a6130e601", func := "tombola/tombolalaw08.CursorReads", spec := "cursorReads", apart := false }
def CursorReadsSaid : Prop := cursorReadsRow.holds Try.pinned (OpenSpec.ofChange cursorReadsSpec)

/-- ITS FALSE NEIGHBOUR: 'it returns false'. Refute it at one input. -/
def cursorReadsWrong : ChangeSpec := { name := "cursorReads", fn := fun _ => fun
  | [d1, d2] => { results := [.lit (.bool false)], args := [d1, d2] }
  | _ => none }
def CursorReadsWrongFalsely : Prop := cursorReadsRow.holds Try.pinned (OpenSpec.ofChange cursorReadsWrong)

/-- 'tombolalaw08.CursorBehind': WHATEVER THE INPUT: true; the input reads as it did. -/
def cursorBehindSpec : ChangeSpec := { name := "cursorBehind", fn := fun _ => fun
  | [d1, d2, d3] => { results := [.lit (.bool true)], args := [d1, d2, d3] }
  | _ => none }
def cursorBehindRow : OpenClaim := { program := "ytimclggnpllfhaa", sum := "0db49f33afae0b5e90dfc5455de9aa4a5977c016ba89945e6be36f5a6130e601", func := "tombola/tombolalaw08.CursorBehind", spec := "cursorBehind", apart := false }
def CursorBehindSaid : Prop := cursorBehindRow.holds Try.pinned (OpenSpec.ofChange cursorBehindSpec)

/-- ITS FALSE NEIGHBOUR: 'it returns false'. Refute it at one input. -/
def cursorBehindWrong : ChangeSpec := { name := "cursorBehind", fn := fun _ => fun
  | [d1, d2, d3] => { results := [.lit (.bool false)], args := [d1, d2, d3] }
  | _ => none }
def CursorBehindWrongFalsely : Prop := cursorBehindRow.holds Try.pinned (OpenSpec.ofChange cursorBehindWrong)

/-- 'tombolalaw08.CursorOver': WHATEVER THE INPUT: true; the input reads as it did. -/
def cursorOverSpec : ChangeSpec := { name := "cursorOver", fn := fun _ => fun
  | [d1, d2] => { results := [.lit (.bool true)], args := [d1, d2] }
  | _ => none }
def cursorOverRow : OpenClaim := { program := "ytimclggnpllfhaa", sum := "0db49f33afae0b5e90dfc5455de9aa4a5977c016ba89945e6be36f5a6130e601", func := "tombola/tombolalaw08.CursorOver", spec := "cursorOver", apart := false }
def CursorOverSaid : Prop := cursorOverRow.holds Try.pinned (OpenSpec.ofChange cursorOverSpec)

/-- ITS FALSE NEIGHBOUR: 'it returns false'. Refute it at one input. -/
def cursorOverWrong : ChangeSpec := { name := "cursorOver", fn := fun _ => fun
  | [d1, d2] => { results := [.lit (.bool false)], args := [d1, d2] }
  | _ => none }
def CursorOverWrongFalsely : Prop := cursorOverRow.holds Try.pinned (OpenSpec.ofChange cursorOverWrong)

/-- 'tombolalaw08.CursorNames': WHATEVER THE INPUT: true; the input reads as it did. -/
def cursorNamesSpec : ChangeSpec := { name := "cursorNames", fn := fun _ => fun
  | [] => { results := [.lit (.bool true)], args := [] }
  | _ => none }
def cursorNamesRow : OpenClaim := { program := "ytimclggnpllfhaa", sum := "0db49f33afae0b5e90dfc5455de9aa4a5977c016ba89945e6be36f5a6130e601", func := "tombola/tombolalaw08.CursorNames", spec := "cursorNames", apart := false }
def CursorNamesSaid : Prop := cursorNamesRow.holds Try.pinned (OpenSpec.ofChange cursorNamesSpec)

/-- ITS FALSE NEIGHBOUR: 'it returns false'. Refute it at one input. -/
def cursorNamesWrong : ChangeSpec := { name := "cursorNames", fn := fun _ => fun
  | [] => { results := [.lit (.bool false)], args := [] }
  | _ => none }
def CursorNamesWrongFalsely : Prop := cursorNamesRow.holds Try.pinned (OpenSpec.ofChange cursorNamesWrong)

/-- 'tombolalaw08.CursorJoins': WHATEVER THE INPUT: true; the input reads as it did. -/
def cursorJoinsSpec : ChangeSpec := { name := "cursorJoins", fn := fun _ => fun
  | [d1, d2, d3, d4] => { results := [.lit (.bool true)], args := [d1, d2, d3, d4] }
  | _ => none }
def cursorJoinsRow : OpenClaim := { program := "ytimclggnpllfhaa", sum := "0db49f33afae0b5e90dfc5455de9aa4a5977c016ba89945e6be36f5a6130e601", func := "tombola/tombolalaw08.CursorJoins", spec := "cursorJoins", apart := false }
def CursorJoinsSaid : Prop := cursorJoinsRow.holds Try.pinned (OpenSpec.ofChange cursorJoinsSpec)

/-- ITS FALSE NEIGHBOUR: 'it returns false'. Refute it at one input. -/
def cursorJoinsWrong : ChangeSpec := { name := "cursorJoins", fn := fun _ => fun
  | [d1, d2, d3, d4] => { results := [.lit (.bool false)], args := [d1, d2, d3, d4] }
  | _ => none }
def CursorJoinsWrongFalsely : Prop := cursorJoinsRow.holds Try.pinned (OpenSpec.ofChange cursorJoinsWrong)

/-- 'tombolalaw08.CursorApart': WHATEVER THE INPUT: true; the input reads as it did. -/
def cursorApartSpec : ChangeSpec := { name := "cursorApart", fn := fun _ => fun
  | [d1, d2, d3] => { results := [.lit (.bool true)], args := [d1, d2, d3] }
  | _ => none }
def cursorApartRow : OpenClaim := { program := "ytimclggnpllfhaa", sum := "0db49f33afae0b5e90dfc5455de9aa4a5977c016ba89945e6be36f5a6130e601", func := "tombola/tombolalaw08.CursorApart", spec := "cursorApart", apart := false }
def CursorApartSaid : Prop := cursorApartRow.holds Try.pinned (OpenSpec.ofChange cursorApartSpec)

/-- ITS FALSE NEIGHBOUR: 'it returns false'. Refute it at one input. -/
def cursorApartWrong : ChangeSpec := { name := "cursorApart", fn := fun _ => fun
  | [d1, d2, d3] => { results := [.lit (.bool false)], args := [d1, d2, d3] }
  | _ => none }
def CursorApartWrongFalsely : Prop := cursorApartRow.holds Try.pinned (OpenSpec.ofChange cursorApartWrong)

/- THE SECOND FORM. 'bulk': how many values and letters a reading holds, each counted each time it is reached (what is shared counts as often as it is met; a slice's spare places count too). A statement '..UptoSaid' is the law's where the arguments, and the package variables that the reading takes, are together of bulk at most 1048576: NARROWER than '..Said'. Prove '..Said' where nothing that the law and all that it calls make is longer than what came in: it says more and counts as full. Else prove '..UptoSaid'. A law counts once. -/
mutual
def uptoBulk {H : Type} : DataW H → Nat
  | .lit (.string bytes) => bytes.length + 1
  | .lit _ => 1
  | .nil => 1
  | .ptr d => uptoBulk d + 1
  | .slice elems spare => uptoBulkAll elems + uptoBulkAll spare + 1
  | .agg parts => uptoBulkAll parts + 1
  | .iface _ d => uptoBulk d + 1
  | .map entries => uptoBulkEntries entries + 1
  | .held _ => 1
def uptoBulkAll {H : Type} : List (DataW H) → Nat
  | [] => 0
  | d :: r => uptoBulk d + uptoBulkAll r
def uptoBulkEntries {H : Type} : List (Lit × DataW H) → Nat
  | [] => 0
  | x :: r => uptoBulkEntry x + uptoBulkEntries r
def uptoBulkEntry {H : Type} : Lit × DataW H → Nat
  | (.string bytes, d) => bytes.length + uptoBulk d + 1
  | (_, d) => uptoBulk d + 1
 end
def uptoSmall : (H : Type) → List (DataW H) → Bool := fun _ ds => decide (uptoBulkAll ds ≤ 1048576)
def OpenSpec.upto (s : _root_.Go.ChangeSpec) : _root_.Go.OpenSpec := { _root_.Go.OpenSpec.ofChange s with cond := some uptoSmall }

/-- 'tombolalaw08.CursorReads', WHERE WHAT IT READS IS OF BULK AT MOST 1048576: true; the input reads as it did. -/
def cursorReadsUptoRow : OpenClaim := { program := "ytimclggnpllfhaa", sum := "0db49f33afae0b5e90dfc5455de9aa4a5977c016ba89945e6be36f5a6130e601", func := "tombola/tombolalaw08.CursorReads", spec := "cursorReads", apart := false, narrowed := true }
def CursorReadsUptoSaid : Prop := cursorReadsUptoRow.holds Try.pinned (OpenSpec.upto cursorReadsSpec)

/-- 'tombolalaw08.CursorBehind', WHERE WHAT IT READS IS OF BULK AT MOST 1048576: true; the input reads as it did. -/
def cursorBehindUptoRow : OpenClaim := { program := "ytimclggnpllfhaa", sum := "0db49f33afae0b5e90dfc5455de9aa4a5977c016ba89945e6be36f5a6130e601", func := "tombola/tombolalaw08.CursorBehind", spec := "cursorBehind", apart := false, narrowed := true }
def CursorBehindUptoSaid : Prop := cursorBehindUptoRow.holds Try.pinned (OpenSpec.upto cursorBehindSpec)

/-- 'tombolalaw08.CursorOver', WHERE WHAT IT READS IS OF BULK AT MOST 1048576: true; the input reads as it did. -/
def cursorOverUptoRow : OpenClaim := { program := "ytimclggnpllfhaa", sum := "0db49f33afae0b5e90dfc5455de9aa4a5977c016ba89945e6be36f5a6130e601", func := "tombola/tombolalaw08.CursorOver", spec := "cursorOver", apart := false, narrowed := true }
def CursorOverUptoSaid : Prop := cursorOverUptoRow.holds Try.pinned (OpenSpec.upto cursorOverSpec)

/-- 'tombolalaw08.CursorNames', WHERE WHAT IT READS IS OF BULK AT MOST 1048576: true; the input reads as it did. -/
def cursorNamesUptoRow : OpenClaim := { program := "ytimclggnpllfhaa", sum := "0db49f33afae0b5e90dfc5455de9aa4a5977c016ba89945e6be36f5a6130e601", func := "tombola/tombolalaw08.CursorNames", spec := "cursorNames", apart := false, narrowed := true }
def CursorNamesUptoSaid : Prop := cursorNamesUptoRow.holds Try.pinned (OpenSpec.upto cursorNamesSpec)

/-- 'tombolalaw08.CursorJoins', WHERE WHAT IT READS IS OF BULK AT MOST 1048576: true; the input reads as it did. -/
def cursorJoinsUptoRow : OpenClaim := { program := "ytimclggnpllfhaa", sum := "0db49f33afae0b5e90dfc5455de9aa4a5977c016ba89945e6be36f5a6130e601", func := "tombola/tombolalaw08.CursorJoins", spec := "cursorJoins", apart := false, narrowed := true }
def CursorJoinsUptoSaid : Prop := cursorJoinsUptoRow.holds Try.pinned (OpenSpec.upto cursorJoinsSpec)

/-- 'tombolalaw08.CursorApart', WHERE WHAT IT READS IS OF BULK AT MOST 1048576: true; the input reads as it did. -/
def cursorApartUptoRow : OpenClaim := { program := "ytimclggnpllfhaa", sum := "0db49f33afae0b5e90dfc5455de9aa4a5977c016ba89945e6be36f5a6130e601", func := "tombola/tombolalaw08.CursorApart", spec := "cursorApart", apart := false, narrowed := true }
def CursorApartUptoSaid : Prop := cursorApartUptoRow.holds Try.pinned (OpenSpec.upto cursorApartSpec)

end Rows
end Go.Proofs.Ytimclggnpllfhaa
