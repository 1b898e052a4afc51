/- The laws of chapter 15 over the marks of a text, in plain Lean. No program in sight. -/
import Derived.Test.YtbhekkkijomglaaGreatDoorLexP
namespace Go.Proofs.YtbhekkkijomglaaGreatDoor
open Go

theorem lexRun_slen (l : List UInt8) : (lexRun l).1.2.2.length ≤ l.length := by
  unfold lexRun lexNum lexRow bad
  repeat' split
  all_goals first | exact Nat.zero_le _ | exact Nat.le_refl _ | (simp; done)
/-- Where a text's mark stands, and what its bytes are. -/
structure Stand (a : Nat) (r : List UInt8) (m : MarkT) : Prop where
  at1 : a ≤ m.2.1
  at2 : m.2.1 < m.2.2.1
  at3 : m.2.2.1 ≤ a + r.length
  kind : m.1 ≤ 9
  bytes : markShow (ofT m) = ((r.drop (m.2.1 - a)).take (m.2.2.1 - m.2.1), 0)
  n0 : -9223372036854775808 ≤ m.2.2.2.1
  n1 : m.2.2.2.1 ≤ 9223372036854775807
  slen : m.2.2.2.2.length ≤ r.length
theorem Stand.on {a b : Nat} {p r : List UInt8} {m : MarkT} (h : Stand b r m) (hb : b = a + p.length) : Stand a (p ++ r) m := by
  obtain ⟨h1, h2, h3, h4, h5, h6, h7, h8⟩ := h
  subst hb
  refine ⟨by omega, h2, by rw [List.length_append]; omega, h4, ?_, h6, h7, by rw [List.length_append]; omega⟩
  have e : (p ++ r).drop (m.2.1 - a) = r.drop (m.2.1 - (a + p.length)) := by
    rw [List.drop_append, List.drop_eq_nil_of_le (by omega), List.nil_append, show m.2.1 - a - p.length = m.2.1 - (a + p.length) by omega]
  rw [h5, e]
theorem run_stand (a : Nat) {x t : List UInt8} (hc : Cut x t) (h : (lexRun x).2 = 0) : Stand a (x ++ t) (runMark a x) := by
  obtain ⟨e, n0, n1⟩ := run_show hc h
  have hp := hc.pos
  refine ⟨Nat.le_refl _, by show a < a + _; omega, by show a + _ ≤ _; rw [List.length_append]; omega, lexRun_kind x, ?_, n0, n1, by have := lexRun_slen x; rw [List.length_append]; show (lexRun x).1.2.2.length ≤ _; omega⟩
  show lexShow (lexRun x).1.1 (lexRun x).1.2.1 (lexRun x).1.2.2 = _
  rw [e]
  show (x, 0) = (((x ++ t).drop (a - a)).take (a + x.length - a), 0)
  rw [Nat.sub_self, List.drop_zero, show a + x.length - a = x.length by omega, List.take_left]
theorem marks_stand (r : List UInt8) : ∀ a, ∀ m ∈ (marks a r).1, Stand a r m := by
  refine text_ind (fun r => ∀ a, ∀ m ∈ (marks a r).1, Stand a r m) ?_ ?_ r
  · intro bl hb a m hm
    rw [marks_blank bl a hb] at hm
    simp at hm
  · intro bl x t hb hc ih a m hm
    rw [marks_blanks bl a _ hb, marks_run _ hc] at hm
    by_cases h0 : (lexRun x).2 = 0
    · rw [if_pos h0] at hm
      unfold prep at hm
      split at hm
      · rcases List.mem_append.1 hm with hm | hm
        · obtain rfl := List.mem_singleton.1 hm
          exact (run_stand _ hc h0).on rfl
        · exact ((ih _ m hm).on (p := x) rfl).on rfl
      · simp at hm
    · rw [if_neg h0] at hm
      simp at hm
/-- What is left of a text behind its first mark. -/
theorem rest_mark (a : Nat) (r : List UInt8) (h0 : (fromRest a r).2.2 = 0) (hk : (fromRest a r).1.1 ≠ 10) :
    Stand a r (fromRest a r).1 ∧ (∀ c ∈ r.take ((fromRest a r).1.2.1 - a), blankB c = true) := by
  rcases Nat.lt_or_eq_of_le (skipN_le r) with hs | hs
  · obtain ⟨bl, x, t, rfl, hb, hc⟩ := split_text r hs
    rw [rest_blanks bl a _ hb, rest_run _ hc] at h0 hk ⊢
    unfold ofGot at h0 hk ⊢
    by_cases h1 : (lexRun x).2 = 0
    · rw [if_pos h1] at h0 hk ⊢
      refine ⟨(run_stand (a + bl.length) hc h1).on rfl, ?_⟩
      show ∀ c ∈ (bl ++ (x ++ t)).take (a + bl.length - a), _
      rw [show a + bl.length - a = bl.length by omega, List.take_left]
      exact List.all_eq_true.1 hb
    · rw [if_neg h1] at h0; exact absurd h0 h1
  · rw [fromRest_end a r hs] at hk
    exact absurd rfl hk
/-- Where there is no mark: blanks alone. -/
theorem rest_stop (a : Nat) (r : List UInt8) (h0 : (fromRest a r).2.2 = 0) (hk : (fromRest a r).1.1 = 10) : ∀ c ∈ r, blankB c = true := by
  rcases Nat.lt_or_eq_of_le (skipN_le r) with hs | hs
  · obtain ⟨bl, x, t, rfl, hb, hc⟩ := split_text r hs
    have := lexRun_kind x
    rw [rest_blanks bl a _ hb, rest_run _ hc] at h0 hk
    unfold ofGot at h0 hk
    by_cases h1 : (lexRun x).2 = 0
    · rw [if_pos h1] at hk
      have h2 : (lexRun x).1.1 = 10 := hk
      omega
    · rw [if_neg h1] at h0; exact absurd h0 h1
  · have e := takeWhile_take blankB r
    change r.takeWhile blankB = r.take (skipN r) at e
    rw [hs, List.take_length] at e
    have ha := takeWhile_all blankB r
    rw [e] at ha
    exact ha

/-- A text that is right: blanks alone; or its first mark, and the rest. -/
theorem marks_step (a : Nat) (r : List UInt8) (ms : List MarkT) (h : marks a r = (ms, 0, 0)) :
    (ms = [] ∧ ∀ c ∈ r, blankB c = true) ∨ (∃ m rest, ms = m :: rest ∧ Stand a r m ∧ (∀ c ∈ r.take (m.2.1 - a), blankB c = true) ∧ marks m.2.2.1 (r.drop (m.2.2.1 - a)) = (rest, 0, 0)) := by
  rw [marks_at] at h
  by_cases h1 : (fromRest a r).2.2 ≠ 0
  · rw [if_pos h1] at h
    exact absurd (congrArg (fun x => x.2.2) h) h1
  rw [if_neg h1] at h
  by_cases h2 : (fromRest a r).1.1 = 10
  · rw [if_pos h2] at h
    exact .inl ⟨(congrArg Prod.fst h).symm, rest_stop a r (by omega) h2⟩
  rw [if_neg h2] at h
  obtain ⟨s1, s2⟩ := rest_mark a r (by omega) h2
  refine .inr ⟨(fromRest a r).1, (marks (fromRest a r).1.2.2.1 (r.drop ((fromRest a r).1.2.2.1 - a))).1, ?_, s1, s2, ?_⟩
  · unfold prep at h
    split at h
    · exact (congrArg Prod.fst h).symm
    · rename_i h3; exact absurd (congrArg (fun x => x.2.2) h) h3
  · have h0 : (marks (fromRest a r).1.2.2.1 (r.drop ((fromRest a r).1.2.2.1 - a))).2.2 = 0 := by
      unfold prep at h
      split at h
      · assumption
      · exact congrArg (fun x => x.2.2) h
    have h4 := marks_ok h0
    generalize marks (fromRest a r).1.2.2.1 (r.drop ((fromRest a r).1.2.2.1 - a)) = x at *
    obtain ⟨x, y, z⟩ := x
    simp only at h0 h4
    subst h0 h4
    rfl

/-- Where something is wrong: within the text. -/
theorem marks_place (r : List UInt8) : ∀ a, (marks a r).2.1 ≤ a + r.length := by
  refine text_ind (fun r => ∀ a, (marks a r).2.1 ≤ a + r.length) ?_ ?_ r
  · intro bl hb a
    rw [marks_blank bl a hb]
    exact Nat.zero_le _
  · intro bl x t hb hc ih a
    rw [marks_blanks bl a _ hb, marks_run _ hc, List.length_append, List.length_append]
    have := ih (a + bl.length + x.length)
    by_cases h0 : (lexRun x).2 = 0
    · rw [if_pos h0]
      unfold prep
      split
      · exact Nat.zero_le _
      · show (marks _ t).2.1 ≤ _; omega
    · rw [if_neg h0]
      show a + bl.length ≤ _
      omega

/-! ### Blanks more -/
theorem more_blanks (r : List UInt8) : ∀ (a k j : Nat) (bl : List UInt8), (marks a r).2.2 = 0 → bl.all blankB = true →
    ((k = (marks a r).1.length ∧ j = r.length) ∨ (∃ m, (marks a r).1[k]? = some m ∧ a + j = m.2.1)) →
    marks a (r.take j ++ (bl ++ r.drop j)) = ((marks a r).1.take k ++ ((marks a r).1.drop k).map (shiftM bl.length), 0, 0) := by
  refine text_ind (fun r => ∀ (a k j : Nat) (bl : List UInt8), (marks a r).2.2 = 0 → bl.all blankB = true →
    ((k = (marks a r).1.length ∧ j = r.length) ∨ (∃ m, (marks a r).1[k]? = some m ∧ a + j = m.2.1)) →
    marks a (r.take j ++ (bl ++ r.drop j)) = ((marks a r).1.take k ++ ((marks a r).1.drop k).map (shiftM bl.length), 0, 0)) ?_ ?_ r
  · intro b0 hb0 a k j bl h hb hk
    rw [marks_blank b0 a hb0] at hk ⊢
    rcases hk with ⟨rfl, rfl⟩ | ⟨m, hm, _⟩
    · rw [List.take_length, List.drop_length, List.append_nil, marks_blank _ _ (by rw [List.all_append, hb0, hb]; rfl)]
      rfl
    · simp at hm
  · intro b0 x t hb0 hc ih a k j bl h hb hk
    have hr := marks_run (a + b0.length) hc
    rw [marks_blanks b0 a _ hb0] at h hk ⊢
    rw [hr] at h hk ⊢
    by_cases h0 : (lexRun x).2 = 0
    · rw [if_pos h0] at h hk ⊢
      have ht : (marks (a + b0.length + x.length) t).2.2 = 0 := by
        unfold prep at h
        split at h
        · assumption
        · exact h
      have hm1 := marks_stand t (a + b0.length + x.length)
      have ih2 := ih (a + b0.length + x.length)
      have hsh : ∀ d, marks (a + b0.length + x.length + d) t = shiftA d (marks (a + b0.length + x.length) t) := fun d => marks_shift d t (a + b0.length + x.length)
      have hp : prep [runMark (a + b0.length) x] (marks (a + b0.length + x.length) t) = (runMark (a + b0.length) x :: (marks (a + b0.length + x.length) t).1, 0, 0) := by
        unfold prep; rw [if_pos ht]; rfl
      rw [hp] at hk ⊢
      cases k with
      | zero =>
        have hj : j = b0.length := by
          rcases hk with ⟨h1, _⟩ | ⟨m, hm, hj⟩
          · simp at h1
          · simp at hm
            subst hm
            have : a + j = a + b0.length := hj
            omega
        subst hj
        rw [List.take_left, List.drop_left, ← List.append_assoc, marks_blanks (b0 ++ bl) a _ (by rw [List.all_append, hb0, hb]; rfl), marks_run _ hc, if_pos h0]
        have e1 : a + (b0 ++ bl).length + x.length = a + b0.length + x.length + bl.length := by rw [List.length_append]; omega
        have e2 : runMark (a + (b0 ++ bl).length) x = shiftM bl.length (runMark (a + b0.length) x) := by
          unfold runMark shiftM
          rw [e1]
          rw [show a + (b0 ++ bl).length = a + b0.length + bl.length by rw [List.length_append]; omega]
        rw [e1, hsh, e2]
        unfold shiftA prep
        rw [if_pos ht, if_pos rfl]
        rfl
      | succ k =>
        obtain ⟨j, rfl⟩ : ∃ j', j = b0.length + (x.length + j') := by
          rcases hk with ⟨_, h2⟩ | ⟨m, hm, hj⟩
          · exact ⟨t.length, by rw [h2, List.length_append, List.length_append]⟩
          · simp only [List.getElem?_cons_succ] at hm
            have := (hm1 m (List.mem_of_getElem? hm)).at1
            exact ⟨j - b0.length - x.length, by omega⟩
        have e1 : (b0 ++ (x ++ t)).take (b0.length + (x.length + j)) = b0 ++ (x ++ t.take j) := by
          rw [List.take_append, List.take_of_length_le (by omega), show b0.length + (x.length + j) - b0.length = x.length + j by omega, List.take_append, List.take_of_length_le (by omega), show x.length + j - x.length = j by omega]
        have e2 : (b0 ++ (x ++ t)).drop (b0.length + (x.length + j)) = t.drop j := by
          rw [List.drop_append, List.drop_eq_nil_of_le (by omega), show b0.length + (x.length + j) - b0.length = x.length + j by omega, List.drop_append, List.drop_eq_nil_of_le (by omega), show x.length + j - x.length = j by omega]
          rfl
        have hst : Stops t → Stops (t.take j ++ (bl ++ t.drop j)) := by
          intro hs
          cases j with
          | zero =>
            rw [List.take_zero, List.drop_zero, List.nil_append]
            exact Stops.blanks hb hs
          | succ j =>
            cases t with
            | nil => rw [List.take_nil, List.drop_nil, List.nil_append]; exact Stops.blanks hb Stops.nil
            | cons b u =>
              intro c v e
              rw [List.take_succ_cons, List.cons_append] at e
              injection e with e _
              subst e
              exact hs _ u rfl
        rw [e1, e2]
        have e3 : b0 ++ (x ++ t.take j) ++ (bl ++ t.drop j) = b0 ++ (x ++ (t.take j ++ (bl ++ t.drop j))) := by simp only [List.append_assoc]
        rw [e3, marks_blanks b0 a _ hb0, marks_run _ (hc.to hst), if_pos h0, ih2 k j bl ht hb ?_]
        · unfold prep; rw [if_pos rfl]; rfl
        · rcases hk with ⟨h1, h2⟩ | ⟨m, hm, hj⟩
          · refine .inl ⟨by simpa using h1, ?_⟩
            rw [List.length_append, List.length_append] at h2
            omega
          · refine .inr ⟨m, by simpa using hm, by omega⟩
    · rw [if_neg h0] at h; exact absurd h h0

/-! ### Join -/
/-- The runs of marks, each behind a blank. -/
def tailT (ms : List MarkZ) : List UInt8 := ms.flatMap fun m => 32 :: (markShow m).1
/-- The runs of marks, with a blank between two. -/
def joinT (ms : List MarkZ) : List UInt8 := (tailT ms).drop 1
theorem tailT_cons (m : MarkZ) (r : List MarkZ) : tailT (m :: r) = 32 :: ((markShow m).1 ++ tailT r) := rfl
theorem tailT_append (l r : List MarkZ) : tailT (l ++ r) = tailT l ++ tailT r := List.flatMap_append
theorem joinT_cons (m : MarkZ) (r : List MarkZ) : joinT (m :: r) = (markShow m).1 ++ tailT r := rfl
theorem joinT_snoc (l : List MarkZ) (m : MarkZ) : joinT (l ++ [m]) = (if 0 < l.length then joinT l ++ [32] else joinT l) ++ (markShow m).1 := by
  cases l with
  | nil => show joinT [m] = _; rw [joinT_cons]; show (markShow m).1 ++ [] = [] ++ _; rw [List.append_nil, List.nil_append]
  | cons x r =>
    rw [if_pos (by simp), List.cons_append, joinT_cons, joinT_cons, tailT_append]
    show (markShow x).1 ++ (tailT r ++ (32 :: ((markShow m).1 ++ []))) = _
    simp
theorem joinGo_ok : ∀ (ms : List MarkZ) (k : Nat) (acc : List UInt8), (∀ m ∈ ms, (markShow m).2 = 0) →
    joinGo k acc ms = if 65536 < (acc ++ (if 0 < k then tailT ms else joinT ms)).length then ([], 5) else (acc ++ (if 0 < k then tailT ms else joinT ms), 0)
  | [], k, acc, _ => by
    have e : (if 0 < k then tailT [] else joinT []) = ([] : List UInt8) := by split <;> rfl
    rw [e, List.append_nil, joinGo]
  | m :: r, k, acc, h => by
    rw [joinGo, if_neg (by simp [h m (by simp)]), joinGo_ok r (k + 1) _ (fun x hx => h x (by simp [hx])), if_pos (Nat.succ_pos k)]
    have e : (if 0 < k then acc ++ [32] else acc) ++ (markShow m).1 ++ tailT r = acc ++ (if 0 < k then tailT (m :: r) else joinT (m :: r)) := by
      by_cases hk : 0 < k
      · rw [if_pos hk, if_pos hk, tailT_cons]; simp
      · rw [if_neg hk, if_neg hk, joinT_cons, List.append_assoc]
    rw [e]
theorem joinGo_bad : ∀ (ms : List MarkZ) (k : Nat) (acc : List UInt8), (joinGo k acc ms).2 = 0 → ∀ m ∈ ms, (markShow m).2 = 0
  | [], _, _, _, m, hm => by simp at hm
  | x :: r, k, acc, h, m, hm => by
    rw [joinGo] at h
    by_cases hx : (markShow x).2 ≠ 0
    · rw [if_pos hx] at h; exact absurd h hx
    rw [if_neg hx] at h
    rcases List.mem_cons.1 hm with rfl | hm
    · omega
    · exact joinGo_bad r _ _ h m hm
theorem lexJoin_ok {ms : List MarkZ} {t : List UInt8} (h : lexJoin ms = (t, 0)) : (∀ m ∈ ms, (markShow m).2 = 0) ∧ t = joinT ms ∧ t.length ≤ 65536 := by
  have h1 := joinGo_bad ms 0 [] (by show (lexJoin ms).2 = 0; rw [h])
  have h2 := joinGo_ok ms 0 [] h1
  rw [if_neg (Nat.lt_irrefl 0), List.nil_append] at h2
  change lexJoin ms = _ at h2
  rw [h] at h2
  by_cases h3 : 65536 < (joinT ms).length
  · rw [if_pos h3] at h2
    have : (0 : Nat) = 5 := congrArg Prod.snd h2
    omega
  · rw [if_neg h3] at h2
    have e : t = joinT ms := congrArg Prod.fst h2
    exact ⟨h1, e, by rw [e]; omega⟩
theorem lexJoin_of {ms : List MarkZ} (h : ∀ m ∈ ms, (markShow m).2 = 0) (hl : (joinT ms).length ≤ 65536) : lexJoin ms = (joinT ms, 0) := by
  have h2 := joinGo_ok ms 0 [] h
  rw [if_neg (Nat.lt_irrefl 0), List.nil_append, if_neg (by omega)] at h2
  exact h2
/-- But for its places. -/
def stripZ (m : MarkZ) : MarkZ := (m.1, 0, 0, m.2.2.2.1, m.2.2.2.2)
def IntOk (m : MarkZ) : Prop := -9223372036854775808 ≤ m.2.2.2.1 ∧ m.2.2.2.1 ≤ 9223372036854775807
theorem tail_stops (ms : List MarkZ) : Stops (tailT ms) := by
  cases ms with
  | nil => exact Stops.nil
  | cons m r => intro b t e; rw [tailT_cons] at e; injection e with e _; subst e; rfl
/-- The marks of what is put together, from a place on. -/
theorem marks_join (ms : List MarkZ) : ∀ (a : Nat) (m : MarkZ), (∀ x ∈ m :: ms, (markShow x).2 = 0 ∧ IntOk x) →
    ∃ out, marks a ((markShow m).1 ++ tailT ms) = (out, 0, 0) ∧ out.map (fun x => stripZ (ofT x)) = (m :: ms).map stripZ := by
  induction ms with
  | nil =>
    intro a m h
    obtain ⟨h1, h2, h3⟩ := h m (by simp)
    obtain ⟨hg, hr⟩ := show_run m.1 m.2.2.2.1 m.2.2.2.2 h2 h3 h1
    change GoRun (markShow m).1 at hg
    change lexRun (markShow m).1 = _ at hr
    have hm := marks_run a (hg.cut (tail_stops []))
    rw [hr, if_pos rfl, show tailT [] = [] from rfl, marks_nil] at hm
    refine ⟨[runMark a (markShow m).1], hm, ?_⟩
    simp only [List.map_cons, List.map_nil, runMark, hr]
    rfl
  | cons y r ih =>
    intro a m h
    obtain ⟨h1, h2, h3⟩ := h m (by simp)
    obtain ⟨hg, hr⟩ := show_run m.1 m.2.2.2.1 m.2.2.2.2 h2 h3 h1
    change GoRun (markShow m).1 at hg
    change lexRun (markShow m).1 = _ at hr
    have hm := marks_run a (hg.cut (tail_stops (y :: r)))
    obtain ⟨out, ho1, ho2⟩ := ih (a + (markShow m).1.length + 1) y (fun x hx => h x (by simp at hx ⊢; exact .inr hx))
    have hb := marks_blanks [32] (a + (markShow m).1.length) ((markShow y).1 ++ tailT r) rfl
    rw [List.length_singleton, ho1] at hb
    change marks (a + (markShow m).1.length) (tailT (y :: r)) = _ at hb
    rw [hr, if_pos rfl, hb] at hm
    refine ⟨runMark a (markShow m).1 :: out, hm, ?_⟩
    rw [List.map_cons, ho2, List.map_cons]
    simp only [runMark, hr]
    rfl
/-- All of Join: the marks, but for their places. -/
theorem all_join {ms : List MarkZ} {t : List UInt8} (h : lexJoin ms = (t, 0)) (hi : ∀ m ∈ ms, IntOk m) :
    t.length ≤ 65536 ∧ ∃ out, lexAll t = (out, 0, 0) ∧ out.map (fun x => stripZ (ofT x)) = ms.map stripZ := by
  obtain ⟨h1, rfl, h3⟩ := lexJoin_ok h
  refine ⟨h3, ?_⟩
  rw [marks_lex _ h3]
  cases ms with
  | nil => exact ⟨[], marks_nil 0, rfl⟩
  | cons m r => exact marks_join r 0 m fun x hx => ⟨h1 x hx, hi x hx⟩

/-- How long the runs of a text's marks are, and how many there are. -/
theorem marks_size (r : List UInt8) : ∀ a, (tailT ((marks a r).1.map ofT)).length ≤ 2 * r.length ∧ (marks a r).1.length ≤ r.length := by
  refine text_ind (fun r => ∀ a, (tailT ((marks a r).1.map ofT)).length ≤ 2 * r.length ∧ (marks a r).1.length ≤ r.length) ?_ ?_ r
  · intro bl hb a
    rw [marks_blank bl a hb]
    exact ⟨Nat.zero_le _, Nat.zero_le _⟩
  · intro bl x t hb hc ih a
    rw [marks_blanks bl a _ hb, marks_run _ hc]
    have hp := hc.pos
    by_cases h0 : (lexRun x).2 = 0
    · rw [if_pos h0]
      unfold prep
      split
      · obtain ⟨i1, i2⟩ := ih (a + bl.length + x.length)
        have hs := (run_show hc h0).1
        have hsx : (markShow (ofT (runMark (a + bl.length) x))).1 = x := congrArg Prod.fst hs
        simp only [List.singleton_append, List.map_cons, tailT_cons, List.length_cons, List.length_append]
        rw [hsx]
        omega
      · exact ⟨Nat.zero_le _, Nat.zero_le _⟩
    · rw [if_neg h0]
      exact ⟨Nat.zero_le _, Nat.zero_le _⟩
/-- Join of All. -/
theorem join_all (r : List UInt8) (a : Nat) (hl : r.length ≤ 20000) : lexJoin ((marks a r).1.map ofT) = (joinT ((marks a r).1.map ofT), 0) := by
  refine lexJoin_of ?_ ?_
  · intro m hm
    obtain ⟨x, hx, rfl⟩ := List.mem_map.1 hm
    rw [(marks_stand r a x hx).bytes]
  · have := (marks_size r a).1
    unfold joinT
    rw [List.length_drop]
    omega
end Go.Proofs.YtbhekkkijomglaaGreatDoor
