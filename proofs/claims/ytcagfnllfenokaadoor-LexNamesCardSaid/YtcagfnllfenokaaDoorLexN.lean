/- Where the next mark of a text begins and ends, in plain Lean. No program in sight. -/
import Derived.Test.YtcagfnllfenokaaDoorLexSpec
import Derived.Lib.IndexAny
import Derived.Lib.SlTrimSet
namespace Go.Proofs.YtcagfnllfenokaaDoor
open Go

def stopB (b : UInt8) : Bool := blankB b || brB b
/-- How many blanks stand ahead. -/
def skipN (l : List UInt8) : Nat := (l.takeWhile blankB).length
/-- How long the run is with which a text begins. -/
def runLen : List UInt8 → Nat
  | [] => 0
  | b :: r => if stopB b = true then 1 else ((b :: r).takeWhile fun x => !stopB x).length

/-- kind, at, end, number, string; the place; the error. -/
abbrev NextR := (Nat × Nat × Nat × Int × List UInt8) × Nat × Nat
def noMark : Nat × Nat × Nat × Int × List UInt8 := (0, 0, 0, 0, [])
/-- What Next tells from place a on, where blanks are skipped: of the text's rest. -/
def ofGot (a m : Nat) (g : Got) : NextR := if g.2 = 0 then ((g.1.1, a, a + m, g.1.2.1, g.1.2.2), 0, 0) else (noMark, a, g.2)
def fromRun (a : Nat) (r : List UInt8) : NextR := ofGot a (runLen r) (lexRun (r.take (runLen r)))
def fromRest (a : Nat) (r : List UInt8) : NextR :=
  if r.dropWhile blankB = [] then ((10, a + skipN r, a + skipN r, 0, []), 0, 0) else fromRun (a + skipN r) (r.dropWhile blankB)
def lexNext (l : List UInt8) (at_ : Int) : NextR :=
  if at_ < 0 ∨ (l.length : Int) < at_ then (noMark, 0, 1) else fromRest at_.toNat (l.drop at_.toNat)

theorem takeWhile_le (f : UInt8 → Bool) (l : List UInt8) : (l.takeWhile f).length ≤ l.length := (List.takeWhile_sublist f).length_le
theorem runLen_le (l : List UInt8) : runLen l ≤ l.length := by
  cases l with
  | nil => exact Nat.le_refl _
  | cons b r =>
    unfold runLen
    by_cases h : stopB b = true
    · simp [h]
    · simp only [h, if_false, Bool.false_eq_true]; exact takeWhile_le _ _
theorem runLen_pos (b : UInt8) (r : List UInt8) : 0 < runLen (b :: r) := by
  unfold runLen
  by_cases h : stopB b = true
  · simp [h]
  · simp [h]
theorem skipN_le (l : List UInt8) : skipN l ≤ l.length := takeWhile_le _ _
theorem skip_drop (l : List UInt8) : l.dropWhile blankB = l.drop (skipN l) := by
  unfold skipN
  induction l with
  | nil => rfl
  | cons b r ih => by_cases h : blankB b = true <;> simp [h, ih]

theorem index_stop (f : UInt8 → Bool) (cs : List UInt8) (hf : ∀ b, cs.contains b = f b) (l : List UInt8) :
    Lib.indexAny l cs = if (l.takeWhile fun x => !f x).length = l.length then -1 else ((l.takeWhile fun x => !f x).length : Int) := by
  induction l with
  | nil => rfl
  | cons b r ih =>
    rw [Lib.indexAny, hf]
    by_cases h : f b = true
    · simp [h]
    · have h' : f b = false := by simpa using h
      rw [if_neg (by simp [h']), ih]
      have hle := takeWhile_le (fun x => !f x) r
      by_cases h2 : (r.takeWhile fun x => !f x).length = r.length
      · simp [h', h2]
      · have h3 : ((((r.takeWhile fun x => !f x).length : Nat) : Int) == -1) = false := beq_eq_false_iff_ne.2 (by omega)
        simp [h', h2, h3]

theorem stop_contains (b : UInt8) : ([40, 41, 91, 93, 60, 62, 32, 10] : List UInt8).contains b = stopB b := by
  unfold stopB blankB brB brK
  by_cases h1 : b = 40
  · subst h1; rfl
  by_cases h2 : b = 41
  · subst h2; rfl
  by_cases h3 : b = 91
  · subst h3; rfl
  by_cases h4 : b = 93
  · subst h4; rfl
  by_cases h5 : b = 60
  · subst h5; rfl
  by_cases h6 : b = 62
  · subst h6; rfl
  by_cases h7 : b = 32
  · subst h7; rfl
  by_cases h8 : b = 10
  · subst h8; rfl
  simp [h1, h2, h3, h4, h5, h6, h7, h8]

theorem blank_contains (b : UInt8) : ([32, 10] : List UInt8).contains b = blankB b := by
  unfold blankB
  by_cases h7 : b = 32
  · subst h7; rfl
  by_cases h8 : b = 10
  · subst h8; rfl
  simp [h7, h8]

/-- The run's length by what IndexAny tells. -/
theorem runLen_index (l : List UInt8) (h : l ≠ []) :
    let n := Lib.indexAny l [40, 41, 91, 93, 60, 62, 32, 10]
    (n < 0 → runLen l = l.length) ∧ (n = 0 → runLen l = 1) ∧ (0 < n → (runLen l : Int) = n) := by
  have e := index_stop stopB _ stop_contains l
  cases l with
  | nil => exact absurd rfl h
  | cons b r =>
    simp only [e]
    unfold runLen
    by_cases hb : stopB b = true
    · simp [hb]
    · simp only [hb, if_false, Bool.false_eq_true]
      split
      · rename_i h2
        exact ⟨fun _ => h2, fun h => by omega, fun h => by omega⟩
      · refine ⟨fun h => by omega, fun h => ?_, fun h => rfl⟩
        have hb' : stopB b = false := by simpa using hb
        simp [hb'] at h
        omega
theorem trimLeft_skip (l : List UInt8) : Lib.trimLeftS l [32, 10] = l.drop (skipN l) := by
  rw [← skip_drop]
  unfold Lib.trimLeftS
  congr 1
  funext b
  exact blank_contains b

theorem lexNext_out (l : List UInt8) (i : Int) (h : i < 0 ∨ (l.length : Int) < i) : lexNext l i = (noMark, 0, 1) := by rw [lexNext, if_pos h]
theorem lexNext_in (l : List UInt8) (a : Nat) (h : a ≤ l.length) : lexNext l a = fromRest a (l.drop a) := by
  rw [lexNext, if_neg (by omega), Int.toNat_natCast]
theorem fromRest_end (a : Nat) (r : List UInt8) (h : skipN r = r.length) : fromRest a r = ((10, a + r.length, a + r.length, 0, []), 0, 0) := by
  rw [fromRest, skip_drop, h, List.drop_length, if_pos rfl]
theorem fromRest_run (a : Nat) (r : List UInt8) (h : skipN r < r.length) : fromRest a r = fromRun (a + skipN r) (r.drop (skipN r)) := by
  rw [fromRest, skip_drop, if_neg]
  intro e
  have := congrArg List.length e
  simp at this
  omega
end Go.Proofs.YtcagfnllfenokaaDoor
