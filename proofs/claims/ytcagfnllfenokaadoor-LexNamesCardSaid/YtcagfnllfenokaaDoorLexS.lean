/- A mark's run, in plain Lean. No program in sight. -/
import Derived.Test.YtcagfnllfenokaaDoorLexA
import Derived.Lib.ItoaNum
namespace Go.Proofs.YtcagfnllfenokaaDoor
open Go

def brList : List UInt8 := [40, 41, 91, 93, 60, 62]
def showRun (k : Nat) (n : Int) (l : List UInt8) : List UInt8 :=
  if 1 ≤ k ∧ k ≤ 6 then (brList.drop (k - 1)).take 1
  else if k = 7 then (if lettersB l = true then l else [])
  else if k = 8 then Lib.itoa n
  else if k = 9 then (if isB l = true then 35 :: l else [])
  else []
def lexShow (k : Nat) (n : Int) (l : List UInt8) : List UInt8 × Nat :=
  if showRun k n l = [] ∨ (k ≠ 8 ∧ n ≠ 0) ∨ (k ≠ 7 ∧ k ≠ 9 ∧ l ≠ []) then ([], 3) else (showRun k n l, 0)
end Go.Proofs.YtcagfnllfenokaaDoor
