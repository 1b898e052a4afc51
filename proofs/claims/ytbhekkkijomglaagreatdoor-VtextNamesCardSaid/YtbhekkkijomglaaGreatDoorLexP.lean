/- Runs of a text, and its marks: plain laws. No program in sight. -/
import Derived.Test.YtbhekkkijomglaaGreatDoorNum
import Derived.Test.YtbhekkkijomglaaGreatDoorBldZ
namespace Go.Proofs.YtbhekkkijomglaaGreatDoor
open Go

/-! ### Runs -/
theorem br_stop {b : UInt8} (h : brB b = true) : stopB b = true := by unfold stopB; rw [h, Bool.or_true]
theorem br_blank {b : UInt8} (h : brB b = true) : blankB b = false := by
  unfold blankB
  by_cases h1 : b = 32
  · subst h1; exact absurd h (by decide)
  by_cases h2 : b = 10
  · subst h2; exact absurd h (by decide)
  simp [h1, h2]
theorem blank_stop {b : UInt8} (h : blankB b = true) : stopB b = true := by unfold stopB; rw [h, Bool.true_or]
theorem go_blank {b : UInt8} (h : stopB b = false) : blankB b = false := by
  unfold stopB at h
  simp only [Bool.or_eq_false_iff] at h
  exact h.1
theorem go_br {b : UInt8} (h : stopB b = false) : brB b = false := by
  unfold stopB at h
  simp only [Bool.or_eq_false_iff] at h
  exact h.2

/-- Nothing follows, or a blank or a bracket. -/
def Stops (r : List UInt8) : Prop := ∀ b t, r = b :: t → stopB b = true
/-- A run, and what is behind it. -/
structure Cut (x t : List UInt8) : Prop where
  ne : x ≠ []
  run : (brB (x.headD 0) = true ∧ x.length = 1) ∨ ((∀ c ∈ x, stopB c = false) ∧ Stops t)
theorem Stops.nil : Stops [] := fun _ _ h => by cases h
theorem Stops.app {r s : List UInt8} (h : Stops r) (hs : Stops s) : Stops (r ++ s) := by
  cases r with
  | nil => exact hs
  | cons b t => intro c u e; injection e with e _; subst e; exact h b t rfl
theorem Stops.blanks {bl s : List UInt8} (h : bl.all blankB = true) (hs : Stops s) : Stops (bl ++ s) := by
  refine Stops.app (fun b t e => ?_) hs
  subst e
  simp only [List.all_cons, Bool.and_eq_true] at h
  exact blank_stop h.1
theorem Cut.app {x t s : List UInt8} (h : Cut x t) (hs : Stops s) : Cut x (t ++ s) :=
  ⟨h.ne, h.run.imp id fun k => ⟨k.1, k.2.app hs⟩⟩
theorem Cut.to {x t s : List UInt8} (h : Cut x t) (hs : Stops t → Stops s) : Cut x s := ⟨h.ne, h.run.imp id fun k => ⟨k.1, hs k.2⟩⟩
theorem Cut.head {x t : List UInt8} (h : Cut x t) : blankB (x.headD 0) = false := by
  rcases h.run with ⟨k, _⟩ | ⟨k, _⟩
  · exact br_blank k
  · cases x with
    | nil => exact absurd rfl h.ne
    | cons b r => exact go_blank (k b (by simp))
theorem Cut.pos {x t : List UInt8} (h : Cut x t) : 0 < x.length := by
  cases x with
  | nil => exact absurd rfl h.ne
  | cons b r => simp

theorem takeWhile_app (f : UInt8 → Bool) : ∀ (x t : List UInt8), (∀ c ∈ x, f c = true) → (∀ b u, t = b :: u → f b = false) → (x ++ t).takeWhile f = x
  | [], t, _, h => by
    cases t with
    | nil => rfl
    | cons b u => simp [h b u rfl]
  | c :: r, t, hx, h => by
    rw [List.cons_append, List.takeWhile_cons, hx c (by simp), if_pos rfl, takeWhile_app f r t (fun d hd => hx d (by simp [hd])) h]
theorem cut_len {x t : List UInt8} (h : Cut x t) : runLen (x ++ t) = x.length := by
  cases x with
  | nil => exact absurd rfl h.ne
  | cons b r =>
    rcases h.run with ⟨k, hl⟩ | ⟨k, ht⟩
    · rw [List.cons_append, runLen, if_pos (br_stop (show brB b = true from k)), hl]
    · rw [List.cons_append, runLen, if_neg (by simp [k b (by simp)]), ← List.cons_append, takeWhile_app _ (b :: r) t (fun c hc => by simp [k c hc]) (fun c u e => by simp [ht c u e])]
theorem cut_skip {x t : List UInt8} (h : Cut x t) : skipN (x ++ t) = 0 := by
  have hh := h.head
  cases x with
  | nil => exact absurd rfl h.ne
  | cons b r =>
    have hb : blankB b = false := hh
    unfold skipN
    rw [List.cons_append, List.takeWhile_cons, hb]
    simp
theorem rest_run (a : Nat) {x t : List UInt8} (h : Cut x t) : fromRest a (x ++ t) = ofGot a x.length (lexRun x) := by
  have h0 := h.pos
  rw [fromRest_run a _ (by rw [cut_skip h, List.length_append]; omega), cut_skip h, List.drop_zero, Nat.add_zero, fromRun, cut_len h, List.take_left]
theorem rest_blank (a : Nat) (b : UInt8) (r : List UInt8) (hb : blankB b = true) : fromRest a (b :: r) = fromRest (a + 1) r := by
  have hs : skipN (b :: r) = skipN r + 1 := by unfold skipN; rw [List.takeWhile_cons, hb, if_pos rfl, List.length_cons]
  rcases Nat.lt_or_eq_of_le (skipN_le r) with h | h
  · rw [fromRest_run a _ (by rw [hs, List.length_cons]; omega), fromRest_run _ _ h, hs, List.drop_succ_cons]
    congr 1
    omega
  · rw [fromRest_end a _ (by rw [hs, List.length_cons, h]), fromRest_end _ _ h, List.length_cons]
    rw [show a + (r.length + 1) = a + 1 + r.length by omega]
theorem rest_blanks : ∀ (bl : List UInt8) (a : Nat) (r : List UInt8), bl.all blankB = true → fromRest a (bl ++ r) = fromRest (a + bl.length) r
  | [], a, r, _ => rfl
  | b :: bl, a, r, h => by
    simp only [List.all_cons, Bool.and_eq_true] at h
    rw [List.cons_append, rest_blank a b _ h.1, rest_blanks bl (a + 1) r h.2, List.length_cons]
    congr 1
    omega

theorem takeWhile_take (f : UInt8 → Bool) : ∀ l : List UInt8, (l.takeWhile f) = l.take (l.takeWhile f).length
  | [] => rfl
  | b :: r => by
    by_cases h : f b = true
    · simp only [List.takeWhile_cons, h, if_true, List.length_cons, List.take_succ_cons]; rw [← takeWhile_take f r]
    · simp [List.takeWhile_cons, h]
theorem takeWhile_all (f : UInt8 → Bool) : ∀ l : List UInt8, ∀ c ∈ l.takeWhile f, f c = true
  | [], _, h => by simp at h
  | b :: r, c, h => by
    by_cases hb : f b = true
    · simp only [List.takeWhile_cons, hb, if_true, List.mem_cons] at h
      rcases h with rfl | h
      · exact hb
      · exact takeWhile_all f r c h
    · simp [List.takeWhile_cons, hb] at h
theorem takeWhile_next (f : UInt8 → Bool) : ∀ l : List UInt8, ∀ b t, l.drop (l.takeWhile f).length = b :: t → f b = false
  | [], _, _, h => by simp at h
  | c :: r, b, t, h => by
    by_cases hc : f c = true
    · simp only [List.takeWhile_cons, hc, if_true, List.length_cons, List.drop_succ_cons] at h
      exact takeWhile_next f r b t h
    · simp [List.takeWhile_cons, hc] at h
      obtain ⟨rfl, _⟩ := h
      simpa using hc
/-- A text that is not blanks alone: blanks, a run, and the rest. -/
theorem split_text (r : List UInt8) (h : skipN r < r.length) : ∃ bl x t, r = bl ++ (x ++ t) ∧ bl.all blankB = true ∧ Cut x t := by
  have e := takeWhile_take blankB r
  have ha := takeWhile_all blankB r
  have hn := takeWhile_next blankB r
  have hr : r = r.takeWhile blankB ++ r.drop (skipN r) := by
    have := List.take_append_drop (r.takeWhile blankB).length r
    rw [← e] at this
    exact this.symm
  change ∀ b t, r.drop (skipN r) = b :: t → _ at hn
  generalize hq : r.drop (skipN r) = q at *
  cases q with
  | nil => have := congrArg List.length hq; simp at this; omega
  | cons b t =>
    have hb := hn b t rfl
    refine ⟨r.takeWhile blankB, (b :: t).take (runLen (b :: t)), (b :: t).drop (runLen (b :: t)), ?_, ?_, ?_, ?_⟩
    · rw [List.take_append_drop]; exact hr
    · rw [List.all_eq_true]; exact ha
    · intro e2
      have := congrArg List.length e2
      have hp := runLen_pos b t
      rw [List.length_take, List.length_cons, List.length_nil] at this
      omega
    · by_cases hs : stopB b = true
      · have hbr : brB b = true := by
          unfold stopB at hs
          rw [hb, Bool.false_or] at hs
          exact hs
        refine .inl ?_
        rw [runLen, if_pos hs]
        exact ⟨hbr, rfl⟩
      · refine .inr ?_
        rw [runLen, if_neg hs]
        refine ⟨fun c hc => ?_, fun c u e2 => ?_⟩
        · rw [← takeWhile_take] at hc
          simpa using takeWhile_all (fun x => !stopB x) (b :: t) c hc
        · simpa using takeWhile_next (fun x => !stopB x) (b :: t) c u e2
/-- Texts go by blanks, runs and rests. -/
theorem text_ind (P : List UInt8 → Prop) (h1 : ∀ bl, bl.all blankB = true → P bl) (h2 : ∀ bl x t, bl.all blankB = true → Cut x t → P t → P (bl ++ (x ++ t))) (r : List UInt8) : P r := by
  induction h : r.length using Nat.strongRecOn generalizing r with
  | _ n ih =>
    rcases Nat.lt_or_eq_of_le (skipN_le r) with hs | hs
    · obtain ⟨bl, x, t, rfl, hb, hc⟩ := split_text r hs
      have := hc.pos
      exact h2 bl x t hb hc (ih t.length (by rw [← h, List.length_append, List.length_append]; omega) t rfl)
    · refine h1 r ?_
      rw [List.all_eq_true]
      have e := takeWhile_take blankB r
      change r.takeWhile blankB = r.take (skipN r) at e
      rw [hs, List.take_length] at e
      have ha := takeWhile_all blankB r
      rw [e] at ha
      exact ha

/-! ### The marks of a text -/
theorem allRest_fuel : ∀ (f f' a : Nat) (r : List UInt8), r.length < f → r.length < f' → allRest f a r = allRest f' a r
  | 0, _, _, _, h, _ => absurd h (Nat.not_lt_zero _)
  | _ + 1, 0, _, _, _, h => absurd h (Nat.not_lt_zero _)
  | f + 1, f' + 1, a, r, h, h' => by
    rw [allRest, allRest]
    by_cases h1 : (fromRest a r).2.2 ≠ 0
    · rw [if_pos h1, if_pos h1]
    rw [if_neg h1, if_neg h1]
    by_cases h2 : (fromRest a r).1.1 = 10
    · rw [if_pos h2, if_pos h2]
    have h3 := fromRest_ends a r (by omega) h2
    rw [allRest_fuel f f' _ (r.drop ((fromRest a r).1.2.2.1 - a)) (by rw [List.length_drop]; omega) (by rw [List.length_drop]; omega)]
def marks (a : Nat) (r : List UInt8) : List MarkT × Nat × Nat := allRest (r.length + 1) a r
theorem marks_fuel {f a : Nat} {r : List UInt8} (h : r.length < f) : allRest f a r = marks a r := allRest_fuel _ _ _ _ h (by omega)
theorem prep_marks (a : Nat) (r : List UInt8) : prep [] (marks a r) = marks a r := prep_nil _ _ _
theorem marks_ok {a : Nat} {r : List UInt8} (h : (marks a r).2.2 = 0) : (marks a r).2.1 = 0 := allRest_ok _ _ _ h
theorem marks_none {a : Nat} {r : List UInt8} (h : (marks a r).2.2 ≠ 0) : (marks a r).1 = [] := allRest_bad _ _ _ h
theorem marks_at (a : Nat) (r : List UInt8) : marks a r = if (fromRest a r).2.2 ≠ 0 then ([], (fromRest a r).2.1, (fromRest a r).2.2)
    else if (fromRest a r).1.1 = 10 then ([], 0, 0) else prep [(fromRest a r).1] (marks (fromRest a r).1.2.2.1 (r.drop ((fromRest a r).1.2.2.1 - a))) := by
  have e := prep_nil (r.length + 1) a r
  rw [marks, ← e]
  by_cases h1 : (fromRest a r).2.2 ≠ 0
  · rw [if_pos h1, prep_bad [] _ a r h1]
  rw [if_neg h1]
  by_cases h2 : (fromRest a r).1.1 = 10
  · rw [if_pos h2, prep_stop [] _ a r (by omega) h2]
  have h3 := fromRest_ends a r (by omega) h2
  rw [if_neg h2, prep_more [] _ a r (by omega) h2, List.nil_append, marks_fuel]
  rw [List.length_drop]
  omega
theorem marks_blanks (bl : List UInt8) (a : Nat) (r : List UInt8) (hb : bl.all blankB = true) : marks a (bl ++ r) = marks (a + bl.length) r := by
  rw [marks_at, marks_at (a + bl.length), rest_blanks bl a r hb]
  by_cases h1 : (fromRest (a + bl.length) r).2.2 ≠ 0
  · rw [if_pos h1, if_pos h1]
  rw [if_neg h1, if_neg h1]
  by_cases h2 : (fromRest (a + bl.length) r).1.1 = 10
  · rw [if_pos h2, if_pos h2]
  have h3 := fromRest_ends (a + bl.length) r (by omega) h2
  rw [if_neg h2, if_neg h2]
  generalize (fromRest (a + bl.length) r).1 = m at *
  have : (bl ++ r).drop (m.2.2.1 - a) = r.drop (m.2.2.1 - (a + bl.length)) := by
    rw [List.drop_append, List.drop_eq_nil_of_le (by omega), List.nil_append]
    congr 1
    omega
  rw [this]
theorem marks_nil (a : Nat) : marks a [] = ([], 0, 0) := by
  have : fromRest a [] = ((10, a, a, 0, []), 0, 0) := fromRest_end a [] rfl
  rw [marks_at, this]
  rfl
theorem marks_blank (bl : List UInt8) (a : Nat) (hb : bl.all blankB = true) : marks a bl = ([], 0, 0) := by
  have := marks_blanks bl a [] hb
  rw [List.append_nil, marks_nil] at this
  exact this
def runMark (a : Nat) (x : List UInt8) : MarkT := ((lexRun x).1.1, a, a + x.length, (lexRun x).1.2.1, (lexRun x).1.2.2)
theorem marks_run (a : Nat) {x t : List UInt8} (h : Cut x t) : marks a (x ++ t) = if (lexRun x).2 = 0 then prep [runMark a x] (marks (a + x.length) t) else ([], a, (lexRun x).2) := by
  have hk := lexRun_kind x
  rw [marks_at, rest_run a h]
  unfold ofGot
  by_cases h0 : (lexRun x).2 = 0
  · rw [if_pos h0, if_pos h0, if_neg (by simp), if_neg (by show (lexRun x).1.1 ≠ 10; omega)]
    show prep [runMark a x] (marks (a + x.length) ((x ++ t).drop (a + x.length - a))) = _
    rw [show a + x.length - a = x.length by omega, List.drop_left]
  · rw [if_neg h0, if_neg h0, if_pos h0]
theorem marks_lex (l : List UInt8) (h : l.length ≤ 65536) : lexAll l = marks 0 l := by rw [lexAll, if_neg (by omega), marks]

/-- Behind marks that are right: a text's rest. -/
def behind (x y : List MarkT × Nat × Nat) : List MarkT × Nat × Nat := if x.2.2 = 0 then prep x.1 y else ([], x.2)
theorem prep_prep (m l : List MarkT) (y : List MarkT × Nat × Nat) : prep m (prep l y) = prep (m ++ l) y := by
  unfold prep
  by_cases h : y.2.2 = 0
  · rw [if_pos h, if_pos rfl, if_pos h, List.append_assoc]
  · rw [if_neg h, if_neg h, if_neg h]
theorem behind_prep (m : List MarkT) (x y : List MarkT × Nat × Nat) : behind (prep m x) y = prep m (behind x y) := by
  unfold behind
  by_cases h : x.2.2 = 0
  · rw [if_pos h, prep_prep]
    unfold prep
    rw [if_pos h, if_pos rfl]
  · rw [if_neg h]
    unfold prep
    rw [if_neg h, if_neg h, if_neg h]
theorem marks_two (t : List UInt8) (r : List UInt8) : ∀ a, marks a (r ++ 32 :: t) = behind (marks a r) (marks (a + r.length + 1) t) := by
  refine text_ind (fun r => ∀ a, marks a (r ++ 32 :: t) = behind (marks a r) (marks (a + r.length + 1) t)) ?_ ?_ r
  · intro bl hb a
    have h2 := marks_blanks (bl ++ [32]) a t (by rw [List.all_append, hb]; rfl)
    rw [List.append_assoc, List.length_append, List.length_singleton, ← Nat.add_assoc] at h2
    show marks a (bl ++ ([32] ++ t)) = _
    rw [h2, marks_blank bl a hb]
    show _ = prep [] _
    rw [prep_marks]
  · intro bl x u hb hc ih a
    have hc2 := hc.app (s := 32 :: t) (fun b v e => by injection e with e _; subst e; rfl)
    have e : bl ++ (x ++ u) ++ 32 :: t = bl ++ (x ++ (u ++ 32 :: t)) := by simp only [List.append_assoc]
    rw [e, marks_blanks bl a _ hb, marks_blanks bl a _ hb, marks_run _ hc2, marks_run _ hc, ih]
    have el : a + bl.length + x.length + u.length + 1 = a + (bl ++ (x ++ u)).length + 1 := by simp only [List.length_append]; omega
    rw [el]
    by_cases h0 : (lexRun x).2 = 0
    · rw [if_pos h0, if_pos h0, behind_prep]
    · rw [if_neg h0, if_neg h0, behind, if_neg h0]

/-- So much farther on. -/
def shiftM (d : Nat) (m : MarkT) : MarkT := (m.1, m.2.1 + d, m.2.2.1 + d, m.2.2.2.1, m.2.2.2.2)
def shiftA (d : Nat) (x : List MarkT × Nat × Nat) : List MarkT × Nat × Nat := if x.2.2 = 0 then (x.1.map (shiftM d), 0, 0) else ([], x.2.1 + d, x.2.2)
theorem shift_prep (d : Nat) (m : List MarkT) (x : List MarkT × Nat × Nat) : shiftA d (prep m x) = prep (m.map (shiftM d)) (shiftA d x) := by
  unfold prep shiftA
  by_cases h : x.2.2 = 0
  · rw [if_pos h, if_pos h, if_pos rfl, if_pos rfl, List.map_append]
  · rw [if_neg h, if_neg h, if_neg h, if_neg h]
theorem marks_shift (d : Nat) (r : List UInt8) : ∀ a, marks (a + d) r = shiftA d (marks a r) := by
  refine text_ind (fun r => ∀ a, marks (a + d) r = shiftA d (marks a r)) ?_ ?_ r
  · intro bl hb a
    rw [marks_blank bl _ hb, marks_blank bl _ hb]; rfl
  · intro bl x t hb hc ih a
    rw [marks_blanks bl _ _ hb, marks_blanks bl _ _ hb, marks_run _ hc, marks_run _ hc]
    have e1 : a + d + bl.length = a + bl.length + d := by omega
    have e2 : a + bl.length + d + x.length = a + bl.length + x.length + d := by omega
    rw [e1, e2, ih]
    by_cases h0 : (lexRun x).2 = 0
    · rw [if_pos h0, if_pos h0, shift_prep]
      have : runMark (a + bl.length + d) x = shiftM d (runMark (a + bl.length) x) := by
        unfold runMark shiftM
        rw [e2]
      rw [this]; rfl
    · rw [if_neg h0, if_neg h0, shiftA, if_neg h0]

/-! ### What Show tells of a run, and the other way about -/
theorem br_list : ∀ b : UInt8, brB b = true → (brList.drop (brK b - 1)).take 1 = [b] ∧ 1 ≤ brK b ∧ brK b ≤ 6 := by
  intro b h
  unfold brB brK at h
  unfold brK
  by_cases h1 : b = 40
  · subst h1; decide
  by_cases h2 : b = 41
  · subst h2; decide
  by_cases h3 : b = 91
  · subst h3; decide
  by_cases h4 : b = 93
  · subst h4; decide
  by_cases h5 : b = 60
  · subst h5; decide
  by_cases h6 : b = 62
  · subst h6; decide
  simp [h1, h2, h3, h4, h5, h6] at h
theorem show_of (k : Nat) (n : Int) (l x : List UInt8) (h1 : showRun k n l = x) (hx : x ≠ []) (h2 : k = 8 ∨ n = 0) (h3 : k = 7 ∨ k = 9 ∨ l = []) : lexShow k n l = (x, 0) := by
  rw [lexShow, if_neg, h1]
  rw [h1]
  rintro (h | ⟨h4, h5⟩ | ⟨h4, h5, h6⟩)
  · exact hx h
  · rcases h2 with h2 | h2
    · exact h4 h2
    · exact h5 h2
  · rcases h3 with h3 | h3 | h3
    · exact h4 h3
    · exact h5 h3
    · exact h6 h3
theorem isB_iff (l : List UInt8) : isB l = true ↔ l.length ≤ 1024 ∧ l.all bitB = true := by simp [isB, oddB]
/-- Show of a run's mark is the run. -/
theorem run_show {x t : List UInt8} (hc : Cut x t) (h : (lexRun x).2 = 0) : lexShow (lexRun x).1.1 (lexRun x).1.2.1 (lexRun x).1.2.2 = (x, 0) ∧ -9223372036854775808 ≤ (lexRun x).1.2.1 ∧ (lexRun x).1.2.1 ≤ 9223372036854775807 := by
  have hne := hc.ne
  unfold lexRun at h ⊢
  by_cases h1 : brB (x.headD 0) = true
  · rw [if_pos h1]
    have hl : x.length = 1 := by
      rcases hc.run with ⟨_, hl⟩ | ⟨k, _⟩
      · exact hl
      · cases x with
        | nil => exact absurd rfl hne
        | cons b r => exact absurd h1 (by rw [show (b :: r).headD 0 = b from rfl, go_br (k b (by simp))]; decide)
    cases x with
    | nil => exact absurd rfl hne
    | cons b r =>
      have : r = [] := by simpa using hl
      subst this
      obtain ⟨e1, e2, e3⟩ := br_list b h1
      exact ⟨show_of _ _ _ _ (by show showRun (brK b) 0 [] = _; rw [showRun, if_pos ⟨e2, e3⟩]; exact e1) hne (.inr rfl) (.inr (.inr rfl)), (by decide : (-9223372036854775808 : Int) ≤ 0), (by decide : (0 : Int) ≤ 9223372036854775807)⟩
  rw [if_neg h1] at h ⊢
  by_cases h2 : lettersB x = true
  · rw [if_pos h2]
    exact ⟨show_of _ _ _ _ (by show showRun 7 0 x = _; rw [showRun, if_neg (by omega), if_pos rfl, if_pos h2]) hne (.inr rfl) (.inl rfl), (by decide : (-9223372036854775808 : Int) ≤ 0), (by decide : (0 : Int) ≤ 9223372036854775807)⟩
  rw [if_neg h2] at h ⊢
  by_cases h3 : (x.headD 0 == 45 || digB (x.headD 0)) = true
  · rw [if_pos h3] at h ⊢
    obtain ⟨v, e1, e2, e3, e4⟩ := num_back x h
    rw [e1]
    exact ⟨show_of _ _ _ _ (by show showRun 8 v [] = _; rw [showRun, if_neg (by omega), if_neg (by omega), if_pos rfl]; exact e2) hne (.inl rfl) (.inr (.inr rfl)), e3, e4⟩
  rw [if_neg h3] at h ⊢
  by_cases h4 : (x.headD 0 == 35) = true
  · rw [if_pos h4] at h ⊢
    unfold lexRow at h ⊢
    by_cases h5 : (x.drop 1).all bitB = true
    · rw [if_pos h5] at h ⊢
      by_cases h6 : (x.drop 1).length ≤ 1024
      · rw [if_pos h6]
        refine ⟨show_of _ _ _ _ ?_ hne (.inr rfl) (.inr (.inl rfl)), (by decide : (-9223372036854775808 : Int) ≤ 0), (by decide : (0 : Int) ≤ 9223372036854775807)⟩
        show showRun 9 0 (x.drop 1) = x
        rw [showRun, if_neg (by omega), if_neg (by omega), if_neg (by omega), if_pos rfl, if_pos ((isB_iff _).2 ⟨h6, h5⟩)]
        cases x with
        | nil => exact absurd rfl hne
        | cons b r => rw [show b = 35 from by simpa using h4]; rfl
      · rw [if_neg h6] at h; exact absurd h (by decide)
    · rw [if_neg h5] at h; exact absurd h (by decide)
  · rw [if_neg h4] at h; exact absurd h (by decide)

theorem let_go {c : UInt8} (h : letB c = true) : stopB c = false ∧ digB c = false ∧ c ≠ 45 ∧ c ≠ 35 := by
  simp only [letB, Bool.and_eq_true, decide_eq_true_eq] at h
  have hne : ∀ d : UInt8, d.toNat < 97 → ¬ c = d := fun d hd e => by subst e; omega
  refine ⟨?_, ?_, hne 45 (by decide), hne 35 (by decide)⟩
  · simp [stopB, blankB, brB, brK, hne 32 (by decide), hne 10 (by decide), hne 40 (by decide), hne 41 (by decide), hne 91 (by decide), hne 93 (by decide), hne 60 (by decide), hne 62 (by decide)]
  · have : ¬ c.toNat ≤ 57 := by omega
    simp [digB, this]
theorem dig_go {c : UInt8} (h : digB c = true) : stopB c = false ∧ letB c = false := by
  rw [dig_iff] at h
  have h1 : ∀ d : UInt8, d.toNat < 48 → ¬ c = d := fun d hd e => by subst e; omega
  have h2 : ∀ d : UInt8, 57 < d.toNat → ¬ c = d := fun d hd e => by subst e; omega
  refine ⟨?_, ?_⟩
  · simp [stopB, blankB, brB, brK, h1 32 (by decide), h1 10 (by decide), h1 40 (by decide), h1 41 (by decide), h2 91 (by decide), h2 93 (by decide), h2 60 (by decide), h2 62 (by decide)]
  · have : ¬ 97 ≤ c.toNat := by omega
    simp [letB, this]
theorem bit_go {c : UInt8} (h : bitB c = true) : stopB c = false := by
  simp only [bitB, Bool.or_eq_true, beq_iff_eq] at h
  rcases h with rfl | rfl <;> rfl
/-- A run by its bytes. -/
def GoRun (x : List UInt8) : Prop := x ≠ [] ∧ ((brB (x.headD 0) = true ∧ x.length = 1) ∨ (∀ c ∈ x, stopB c = false))
theorem GoRun.cut {x t : List UInt8} (h : GoRun x) (ht : Stops t) : Cut x t := ⟨h.1, h.2.imp id fun k => ⟨k, ht⟩⟩
/-- What Show tells is a run, and its mark is the one. -/
theorem show_run (k : Nat) (n : Int) (l : List UInt8) (h0 : -9223372036854775808 ≤ n) (h1 : n ≤ 9223372036854775807) (h : (lexShow k n l).2 = 0) :
    GoRun (lexShow k n l).1 ∧ lexRun (lexShow k n l).1 = ((k, n, l), 0) := by
  unfold lexShow at h ⊢
  by_cases hb : showRun k n l = [] ∨ (k ≠ 8 ∧ n ≠ 0) ∨ (k ≠ 7 ∧ k ≠ 9 ∧ l ≠ [])
  · rw [if_pos hb] at h; exact absurd h (by decide)
  rw [if_neg hb]
  have b1 : ¬ showRun k n l = [] := fun e => hb (.inl e)
  have b2 : k ≠ 8 → n = 0 := fun e => Decidable.byContradiction fun e2 => hb (.inr (.inl ⟨e, e2⟩))
  have b3 : k ≠ 7 → k ≠ 9 → l = [] := fun e f => Decidable.byContradiction fun e2 => hb (.inr (.inr ⟨e, f, e2⟩))
  clear hb h
  show GoRun (showRun k n l) ∧ lexRun (showRun k n l) = ((k, n, l), 0)
  unfold showRun at b1 ⊢
  by_cases k1 : 1 ≤ k ∧ k ≤ 6
  · rw [if_pos k1]
    obtain rfl := b2 (by omega)
    obtain rfl := b3 (by omega) (by omega)
    have : k = 1 ∨ k = 2 ∨ k = 3 ∨ k = 4 ∨ k = 5 ∨ k = 6 := by omega
    rcases this with rfl | rfl | rfl | rfl | rfl | rfl <;> exact ⟨⟨by decide, .inl (by decide)⟩, by decide⟩
  rw [if_neg k1] at b1 ⊢
  by_cases k7 : k = 7
  · subst k7
    rw [if_pos rfl] at b1 ⊢
    by_cases hl : lettersB l = true
    · rw [if_pos hl]
      obtain rfl := b2 (by omega)
      have hl' := hl
      simp only [lettersB, Bool.and_eq_true, Bool.not_eq_true', List.isEmpty_eq_false_iff, List.all_eq_true] at hl'
      obtain ⟨g1, g2⟩ := hl'
      refine ⟨⟨g2, .inr fun c hc => (let_go (g1 c hc)).1⟩, ?_⟩
      have hh : brB (l.headD 0) = false := by
        cases l with
        | nil => exact absurd rfl g2
        | cons b r => exact go_br (let_go (g1 b (by simp))).1
      rw [lexRun, if_neg (by rw [hh]; decide), if_pos hl]
    · rw [if_neg hl] at b1; exact absurd rfl b1
  rw [if_neg k7] at b1 ⊢
  by_cases k8 : k = 8
  · subst k8
    rw [if_pos rfl] at b1 ⊢
    obtain rfl := b3 (by omega) (by omega)
    have hf := num_form n h0 h1
    have hnf : numForm (Lib.itoa n) = true := by
      unfold lexNum at hf
      by_cases hq : numForm (Lib.itoa n) = true
      · exact hq
      · rw [if_neg hq] at hf; cases hf
    have hd : ∀ c ∈ Lib.itoa n, c = 45 ∨ digB c = true := by
      rcases (numForm_iff _).1 hnf with hc | ⟨d, hd, hc, _⟩
      · intro c hc2; exact .inr (List.all_eq_true.1 hc.1 c hc2)
      · rw [hd]; intro c hc2
        rcases List.mem_cons.1 hc2 with e | e
        · exact .inl e
        · exact .inr (List.all_eq_true.1 hc.1 c e)
    generalize Lib.itoa n = x at *
    have hg : ∀ c ∈ x, stopB c = false := fun c hc => by
      rcases hd c hc with e | e
      · subst e; rfl
      · exact (dig_go e).1
    cases x with
    | nil => exact absurd rfl b1
    | cons b r =>
      refine ⟨⟨by simp, .inr hg⟩, ?_⟩
      have e1 : brB b = false := go_br (hg b (by simp))
      have e2 : letB b = false := by
        rcases hd b (by simp) with e | e
        · subst e; rfl
        · exact (dig_go e).2
      have e3 : (b == 45 || digB b) = true := by
        rcases hd b (by simp) with e | e
        · subst e; rfl
        · rw [e, Bool.or_true]
      have e4 : lettersB (b :: r) = false := by unfold lettersB; rw [List.all_cons, e2]; rfl
      rw [lexRun, if_neg (by show ¬ brB b = true; rw [e1]; decide), if_neg (by rw [e4]; decide), if_pos (show ((b :: r).headD 0 == 45 || digB ((b :: r).headD 0)) = true from e3)]
      exact hf
  rw [if_neg k8] at b1 ⊢
  by_cases k9 : k = 9
  · subst k9
    rw [if_pos rfl] at b1 ⊢
    by_cases hl : isB l = true
    · rw [if_pos hl]
      obtain rfl := b2 (by omega)
      obtain ⟨g1, g2⟩ := (isB_iff l).1 hl
      refine ⟨⟨by simp, .inr fun c hc => ?_⟩, ?_⟩
      · rcases List.mem_cons.1 hc with rfl | e
        · rfl
        · exact bit_go (List.all_eq_true.1 g2 c e)
      · have e4 : lettersB (35 :: l) = false := by unfold lettersB; rw [List.all_cons]; rfl
        rw [lexRun, if_neg (by show ¬ brB 35 = true; decide), if_neg (by rw [e4]; decide), if_neg (by show ¬ ((35 : UInt8) == 45 || digB 35) = true; decide), if_pos (by rfl)]
        show lexRow l = _
        rw [lexRow, if_pos g2, if_pos g1]
    · rw [if_neg hl] at b1; exact absurd rfl b1
  · rw [if_neg k9] at b1; exact absurd rfl b1
end Go.Proofs.YtbhekkkijomglaaGreatDoor
