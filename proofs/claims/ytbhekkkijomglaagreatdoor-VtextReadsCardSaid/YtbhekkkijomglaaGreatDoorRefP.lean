/- The reference's run is the program's, in plain Lean. No program in sight. -/
import Derived.Test.YtbhekkkijomglaaGreatDoorLexP
import Derived.Test.YtbhekkkijomglaaGreatDoorRefK
namespace Go.Proofs.YtbhekkkijomglaaGreatDoor
open Go

theorem read4_ok (l : List UInt8) : (read4 l).1 = 0 ↔ canon l := by
  unfold read4
  by_cases h0 : l = []
  · rw [if_pos h0]
    exact ⟨fun h => absurd h (by decide), fun h => absurd h0 h.2.1⟩
  rw [if_neg h0]
  by_cases h1 : l.all digB = false
  · rw [if_pos h1]
    exact ⟨fun h => absurd h (by decide), fun h => by rw [h.1] at h1; cases h1⟩
  rw [if_neg h1]
  by_cases h2 : l.head? = some 48 ∧ 1 < l.length
  · rw [if_pos h2]
    refine ⟨fun h => absurd h (by decide), fun h => ?_⟩
    rcases h.2.2 with h3 | h3
    · rw [h3] at h2; exact absurd h2.2 (by decide)
    · exact absurd h2.1 h3
  rw [if_neg h2]
  refine ⟨fun _ => ⟨by simpa using h1, h0, ?_⟩, fun _ => rfl⟩
  by_cases h3 : l.head? = some 48
  · left
    have h4 : ¬ 1 < l.length := fun h => h2 ⟨h3, h⟩
    cases l with
    | nil => exact absurd rfl h0
    | cons c r =>
      have : r = [] := by
        rw [List.length_cons] at h4
        exact List.length_eq_zero_iff.1 (by omega)
      subst this
      rw [Option.some.inj h3]
  · exact .inr h3
theorem read4_val (l : List UInt8) (h : canon l) : (read4 l).2 = decVal 0 l := by
  have h1 := (read4_ok l).2 h
  unfold read4 at h1 ⊢
  by_cases h0 : l = []
  · exact absurd h0 h.2.1
  rw [if_neg h0] at h1 ⊢
  by_cases h2 : l.all digB = false
  · rw [h.1] at h2; cases h2
  rw [if_neg h2] at h1 ⊢
  by_cases h3 : l.head? = some 48 ∧ 1 < l.length
  · rw [if_pos h3] at h1; exact absurd h1 (by decide)
  rw [if_neg h3]
/-- The mark of a number, as the reference reads it. -/
def refNum (l : List UInt8) : Got :=
  if (read5 l).1 ≠ 0 then bad 3
  else if (read5 l).2.1 = true then (if (read5 l).2.2 ≤ 9223372036854775808 then ((8, -((read5 l).2.2 : Int), []), 0) else bad 5)
  else (if (read5 l).2.2 ≤ 9223372036854775807 then ((8, ((read5 l).2.2 : Int), []), 0) else bad 5)
theorem canon_head (d : List UInt8) (h : canon d) : d.head? ≠ some 45 := by
  cases d with
  | nil => exact absurd rfl h.2.1
  | cons c r =>
    intro e
    have hc := h.1
    simp only [List.all_cons, Bool.and_eq_true] at hc
    rw [Option.some.inj e] at hc
    exact absurd hc.1 (by decide)
theorem refNum_eq (l : List UInt8) : refNum l = lexNum l := by
  by_cases hf : numForm l = true
  · rcases (numForm_iff l).1 hf with hc | ⟨d, rfl, hc, h0⟩
    · have hr : read5 l = (0, false, decVal 0 l) := by
        rw [read5, if_neg (canon_head l hc), if_neg (by simp [(read4_ok l).2 hc]), read4_val l hc]
      rw [refNum, hr, if_neg (by simp), if_neg (by simp), lexNum, if_pos hf, parse_plain l hc]
      show (if decVal 0 l ≤ 9223372036854775807 then _ else _) = _
      generalize decVal 0 l = v
      by_cases hv : v < 9223372036854775808
      · rw [if_pos (by omega), if_pos hv]
      · rw [if_neg (by omega), if_neg hv]
    · have hp : 0 < decVal 0 d := dec_pos d hc.1 hc.2.1 (hc.2.2.resolve_left h0)
      have hr : read5 (45 :: d) = (0, true, decVal 0 d) := by
        rw [read5, if_pos (show (45 :: d).head? = some 45 from rfl), List.drop_one, List.tail_cons, if_neg (by simp [(read4_ok d).2 hc]), read4_val d hc, if_neg (by omega)]
      rw [refNum, hr, if_neg (by simp), if_pos rfl, lexNum, if_pos hf, parse_minus d hc]
      show (if decVal 0 d ≤ 9223372036854775808 then _ else _) = _
      generalize decVal 0 d = v
      by_cases hv : v ≤ 9223372036854775808
      · rw [if_pos hv, if_pos hv]
      · rw [if_neg hv, if_neg hv]
  · have hn : (read5 l).1 ≠ 0 := by
      intro h
      apply hf
      rw [numForm_iff]
      unfold read5 at h
      by_cases hh : l.head? = some 45
      · rw [if_pos hh] at h
        right
        cases l with
        | nil => cases hh
        | cons c r =>
          obtain rfl : c = 45 := Option.some.inj hh
          rw [List.drop_one, List.tail_cons] at h
          by_cases h1 : (read4 r).1 ≠ 0
          · rw [if_pos h1] at h; exact absurd h h1
          · rw [if_neg h1] at h
            have hc := (read4_ok r).1 (by omega)
            by_cases h2 : (read4 r).2 = 0
            · rw [if_pos h2] at h; exact absurd h (by decide)
            · refine ⟨r, rfl, hc, fun e => h2 ?_⟩
              rw [read4_val r hc, e]
              decide
      · rw [if_neg hh] at h
        left
        by_cases h1 : (read4 l).1 ≠ 0
        · rw [if_pos h1] at h; exact absurd h h1
        · exact (read4_ok l).1 (by omega)
    rw [refNum, if_pos hn, lexNum, if_neg hf]
/-- The mark of a run, as the reference tells it. -/
def refRun (l : List UInt8) : Got :=
  if l.length = 1 ∧ brB (l.headD 0) = true then ((brK (l.headD 0), 0, []), 0)
  else if letB (l.headD 0) = true then (if l.all letB = true then ((7, 0, l), 0) else bad 3)
  else if (digB (l.headD 0) || l.headD 0 == 45) = true then refNum l
  else if (l.headD 0 == 35) = true then (if (l.drop 1).all bitB = true then (if isB (l.drop 1) = true then ((9, 0, l.drop 1), 0) else bad 5) else bad 3)
  else bad 3
theorem refRun_eq {x t : List UInt8} (h : Cut x t) : refRun x = lexRun x := by
  unfold refRun lexRun
  by_cases h1 : brB (x.headD 0) = true
  · have hl : x.length = 1 := by
      rcases h.run with ⟨_, hl⟩ | ⟨k, _⟩
      · exact hl
      · cases x with
        | nil => exact absurd rfl h.ne
        | cons b r =>
          have := go_br (k b (by simp))
          change brB b = true at h1
          rw [this] at h1; cases h1
    rw [if_pos ⟨hl, h1⟩, if_pos h1]
  rw [if_neg (fun e => h1 e.2), if_neg h1]
  cases x with
  | nil => exact absurd rfl h.ne
  | cons b r =>
    show (if letB b = true then _ else _) = _
    by_cases h2 : letB b = true
    · rw [if_pos h2]
      by_cases h3 : (b :: r).all letB = true
      · rw [if_pos h3, if_pos (by unfold lettersB; rw [h3]; rfl)]
      · obtain ⟨g1, g2, g3, g4⟩ := let_go h2
        have hlf : lettersB (b :: r) = false := by unfold lettersB; rw [show (b :: r).all letB = false by simpa using h3]; rfl
        rw [if_neg h3, hlf, if_neg (show ¬ false = true by decide)]
        rw [if_neg (show ¬ ((b :: r).headD 0 == 45 || digB ((b :: r).headD 0)) = true by show ¬ (b == 45 || digB b) = true; rw [g2]; simp [g3]), if_neg (show ¬ ((b :: r).headD 0 == 35) = true by show ¬ (b == 35) = true; simp [g4])]
    · have hlf : lettersB (b :: r) = false := by unfold lettersB; rw [List.all_cons, show letB b = false by simpa using h2]; rfl
      rw [if_neg h2, hlf, if_neg (show ¬ false = true by decide)]
      show (if (digB b || b == 45) = true then _ else _) = (if (b == 45 || digB b) = true then _ else _)
      rw [Bool.or_comm]
      by_cases h3 : (b == 45 || digB b) = true
      · rw [if_pos h3, if_pos h3, refNum_eq]
      · rw [if_neg h3, if_neg h3]
        show (if (b == 35) = true then _ else _) = (if (b == 35) = true then _ else _)
        by_cases h4 : (b == 35) = true
        · rw [if_pos h4, if_pos h4]
          unfold lexRow
          by_cases h5 : ((b :: r).drop 1).all bitB = true
          · rw [if_pos h5, if_pos h5]
            by_cases h6 : ((b :: r).drop 1).length ≤ 1024
            · rw [if_pos h6, if_pos ((isB_iff _).2 ⟨h6, h5⟩)]
            · rw [if_neg h6, if_neg (fun e => h6 ((isB_iff _).1 e).1)]
          · rw [if_neg h5, if_neg h5]
        · rw [if_neg h4, if_neg h4]
end Go.Proofs.YtbhekkkijomglaaGreatDoor
