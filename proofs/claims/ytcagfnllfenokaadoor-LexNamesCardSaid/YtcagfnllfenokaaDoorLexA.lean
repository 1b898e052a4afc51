/- All marks of a text, in plain Lean. No program in sight. -/
import Derived.Test.YtcagfnllfenokaaDoorLexN
namespace Go.Proofs.YtcagfnllfenokaaDoor
open Go

abbrev MarkT := Nat × Nat × Nat × Int × List UInt8
/-- All marks from a place on, where a text's rest stands; else the place and the error. -/
def allRest : Nat → Nat → List UInt8 → List MarkT × Nat × Nat
  | 0, _, _ => ([], 0, 0)
  | f + 1, a, r =>
    if (fromRest a r).2.2 ≠ 0 then ([], (fromRest a r).2.1, (fromRest a r).2.2)
    else if (fromRest a r).1.1 = 10 then ([], 0, 0)
    else if (allRest f (fromRest a r).1.2.2.1 (r.drop ((fromRest a r).1.2.2.1 - a))).2.2 = 0 then
      ((fromRest a r).1 :: (allRest f (fromRest a r).1.2.2.1 (r.drop ((fromRest a r).1.2.2.1 - a))).1, 0, 0)
    else ([], (allRest f (fromRest a r).1.2.2.1 (r.drop ((fromRest a r).1.2.2.1 - a))).2)
def lexAll (l : List UInt8) : List MarkT × Nat × Nat := if 65536 < l.length then ([], 0, 5) else allRest (l.length + 1) 0 l

theorem lexRun_kind (l : List UInt8) : (lexRun l).1.1 ≤ 9 := by
  unfold lexRun lexNum lexRow bad
  repeat' split
  all_goals first | exact Nat.le_trans (brK_le _) (by decide) | exact Nat.le_of_ble_eq_true rfl
/-- Where Next tells a mark that is no Stop: it ends farther on, and within the text. -/
theorem fromRest_ends (a : Nat) (r : List UInt8) (h0 : (fromRest a r).2.2 = 0) (hk : (fromRest a r).1.1 ≠ 10) :
    a < (fromRest a r).1.2.2.1 ∧ (fromRest a r).1.2.2.1 ≤ a + r.length := by
  rcases Nat.lt_or_eq_of_le (skipN_le r) with h | h
  · rw [fromRest_run a r h] at h0 hk ⊢
    have hl := runLen_le (r.drop (skipN r))
    have hp : 0 < runLen (r.drop (skipN r)) := by
      cases hd : r.drop (skipN r) with
      | nil => have := congrArg List.length hd; simp at this; omega
      | cons x t => exact runLen_pos x t
    rw [List.length_drop] at hl
    unfold fromRun ofGot at h0 ⊢
    split at h0
    · rename_i h1
      rw [if_pos h1]
      show a < a + skipN r + _ ∧ a + skipN r + _ ≤ _
      omega
    · rename_i h1
      exact absurd h0 h1
  · rw [fromRest_end a r h] at hk
    exact absurd rfl hk
theorem fromRest_stop (a : Nat) (r : List UInt8) (hk : (fromRest a r).1.1 = 10) : fromRest a r = ((10, a + r.length, a + r.length, 0, []), 0, 0) := by
  rcases Nat.lt_or_eq_of_le (skipN_le r) with h | h
  · rw [fromRest_run a r h] at hk
    have := lexRun_kind ((r.drop (skipN r)).take (runLen (r.drop (skipN r))))
    unfold fromRun ofGot at hk
    split at hk
    · have h2 : (lexRun ((r.drop (skipN r)).take (runLen (r.drop (skipN r))))).1.1 = 10 := hk
      omega
    · exact absurd (show (0 : Nat) = 10 from hk) (by decide)
  · exact fromRest_end a r h

/-- What stands ahead, put ahead. -/
def prep (ms : List MarkT) (x : List MarkT × Nat × Nat) : List MarkT × Nat × Nat := if x.2.2 = 0 then (ms ++ x.1, 0, 0) else ([], x.2)
theorem allRest_ok : ∀ (f a : Nat) (r : List UInt8), (allRest f a r).2.2 = 0 → (allRest f a r).2.1 = 0
  | 0, _, _, _ => rfl
  | f + 1, a, r, h => by
    unfold allRest at h ⊢
    by_cases h1 : (fromRest a r).2.2 ≠ 0
    · rw [if_pos h1] at h; exact absurd h h1
    rw [if_neg h1] at h ⊢
    by_cases h2 : (fromRest a r).1.1 = 10
    · rw [if_pos h2]
    rw [if_neg h2] at h ⊢
    by_cases h3 : (allRest f (fromRest a r).1.2.2.1 (r.drop ((fromRest a r).1.2.2.1 - a))).2.2 = 0
    · rw [if_pos h3]
    · rw [if_neg h3] at h; exact absurd h h3
theorem allRest_bad : ∀ (f a : Nat) (r : List UInt8), (allRest f a r).2.2 ≠ 0 → (allRest f a r).1 = []
  | 0, _, _, h => absurd rfl h
  | f + 1, a, r, h => by
    unfold allRest at h ⊢
    by_cases h1 : (fromRest a r).2.2 ≠ 0
    · rw [if_pos h1]
    rw [if_neg h1] at h ⊢
    by_cases h2 : (fromRest a r).1.1 = 10
    · rw [if_pos h2]
    rw [if_neg h2] at h ⊢
    by_cases h3 : (allRest f (fromRest a r).1.2.2.1 (r.drop ((fromRest a r).1.2.2.1 - a))).2.2 = 0
    · rw [if_pos h3] at h; exact absurd rfl h
    · rw [if_neg h3]
theorem prep_nil (f a : Nat) (r : List UInt8) : prep [] (allRest f a r) = allRest f a r := by
  unfold prep
  by_cases h : (allRest f a r).2.2 = 0
  · rw [if_pos h]
    have h2 := allRest_ok f a r h
    generalize allRest f a r = x at *
    obtain ⟨x, y, z⟩ := x
    simp at h h2
    subst h h2
    rfl
  · rw [if_neg h]
    have h2 := allRest_bad f a r h
    generalize allRest f a r = x at *
    obtain ⟨x, y, z⟩ := x
    simp at h2
    subst h2
    rfl
theorem prep_bad (ms : List MarkT) (f a : Nat) (r : List UInt8) (h : (fromRest a r).2.2 ≠ 0) : prep ms (allRest (f + 1) a r) = ([], (fromRest a r).2.1, (fromRest a r).2.2) := by
  have e : allRest (f + 1) a r = ([], (fromRest a r).2.1, (fromRest a r).2.2) := by rw [allRest, if_pos h]
  rw [e, prep, if_neg h]
theorem prep_stop (ms : List MarkT) (f a : Nat) (r : List UInt8) (h : (fromRest a r).2.2 = 0) (hk : (fromRest a r).1.1 = 10) : prep ms (allRest (f + 1) a r) = (ms, 0, 0) := by
  have e : allRest (f + 1) a r = ([], 0, 0) := by rw [allRest, if_neg (by simp [h]), if_pos hk]
  rw [e, prep, if_pos rfl, List.append_nil]
theorem prep_more (ms : List MarkT) (f a : Nat) (r : List UInt8) (h : (fromRest a r).2.2 = 0) (hk : (fromRest a r).1.1 ≠ 10) :
    prep ms (allRest (f + 1) a r) = prep (ms ++ [(fromRest a r).1]) (allRest f (fromRest a r).1.2.2.1 (r.drop ((fromRest a r).1.2.2.1 - a))) := by
  rw [allRest, if_neg (by simp [h]), if_neg hk]
  by_cases h3 : (allRest f (fromRest a r).1.2.2.1 (r.drop ((fromRest a r).1.2.2.1 - a))).2.2 = 0
  · rw [if_pos h3, prep, if_pos rfl, prep, if_pos h3, List.append_assoc]; rfl
  · rw [if_neg h3, prep, if_neg h3, prep, if_neg h3]

/-- Marks as a slice's cells. -/
def markCells (m : MarkT) : List Value := [.int .u8 m.1, .int .i64 m.2.1, .int .i64 m.2.2.1, .int .i64 m.2.2.2.1, .string (bs m.2.2.2.2)]
def cellsOf (ms : List MarkT) : List Value := ms.flatMap markCells
theorem cellsOf_snoc (ms : List MarkT) (m : MarkT) : cellsOf (ms ++ [m]) = cellsOf ms ++ markCells m := by simp [cellsOf]
theorem cellsOf_length (ms : List MarkT) : (cellsOf ms).length = ms.length * 5 := by
  induction ms with
  | nil => rfl
  | cons m r ih =>
    have : cellsOf (m :: r) = markCells m ++ cellsOf r := rfl
    rw [this, List.length_append, ih, List.length_cons]
    show 5 + _ = _
    omega
end Go.Proofs.YtcagfnllfenokaaDoor
