/- Blanks more between two marks change nothing but places: plain laws. No program in sight. -/
import Derived.Test.YtbhekkkijomglaaGreatDoorVtT
namespace Go.Proofs.YtbhekkkijomglaaGreatDoor
open Go

/-- A mark, or an error, so much farther on. -/
def shiftNX (d : Nat) (x : NextR) : NextR := if x.2.2 = 0 then (shiftM d x.1, 0, 0) else (noMark, x.2.1 + d, x.2.2)
def shiftPR {α : Type} (d : Nat) : PR α → PR α
  | .ok v a m => .ok v (a + d) m
  | .bad p e => .bad (p + d) e
theorem ofGot_shift (a m d : Nat) (g : Got) : ofGot (a + d) m g = shiftNX d (ofGot a m g) := by
  unfold ofGot shiftNX
  by_cases h : g.2 = 0
  · rw [if_pos h, if_pos h, if_pos rfl]
    show ((_, a + d, a + d + m, _, _), 0, 0) = ((_, a + d, a + m + d, _, _), 0, 0)
    rw [show a + d + m = a + m + d by omega]
  · rw [if_neg h, if_neg h, if_neg h]
theorem rest_shift (a d : Nat) (r : List UInt8) : fromRest (a + d) r = shiftNX d (fromRest a r) := by
  rcases Nat.lt_or_eq_of_le (skipN_le r) with hl | hl
  · obtain ⟨bl, x, t, rfl, hb, hc⟩ := split_text r hl
    rw [rest_blanks _ _ _ hb, rest_blanks _ _ _ hb, rest_run _ hc, rest_run _ hc, show a + d + bl.length = a + bl.length + d by omega, ofGot_shift]
  · rw [fromRest_end _ _ hl, fromRest_end _ _ hl]
    unfold shiftNX
    rw [if_pos rfl]
    show ((10, a + d + r.length, a + d + r.length, 0, []), 0, 0) = ((10, a + r.length + d, a + r.length + d, 0, []), 0, 0)
    rw [show a + d + r.length = a + r.length + d by omega]
theorem valE_shift (d : Nat) (x : MarkT) (m deep item : Nat) : valE (shiftM d x) m deep item = valE x m deep item := rfl
theorem begin_shift (d : Nat) (x : MarkT) : beginV (shiftM d x) = beginV x := rfl
/-! ### One step of a reader, by its cases -/
section
variable {f : Nat} {l : List UInt8} {a m deep item k : Nat} {acc : List V} {x : NextR}
theorem pval_e1 (hx : nx l a = x) (h : x.2.2 ≠ 0) : pval (f + 1) l a m deep item = .bad x.2.1 x.2.2 := by
  subst hx; rw [pval, if_pos h]
theorem pval_e2 (hx : nx l a = x) (h0 : x.2.2 = 0) (h1 : valE x.1 m deep item ≠ 0) : pval (f + 1) l a m deep item = .bad x.1.2.1 (valE x.1 m deep item) := by
  subst hx; rw [pval, if_neg (not_not_intro h0), if_pos h1]
theorem pval_e3 (hx : nx l a = x) (h0 : x.2.2 = 0) (h1 : valE x.1 m deep item = 0) (h2 : (beginV x.1).1.k = 3 ∨ (beginV x.1).1.k = 4) :
    pval (f + 1) l a m deep item = bindP (pitems f l x.1.2.2.1 (m + 1) (beginV x.1).1.k deep []) fun vs a' m' => .ok (.mk (beginV x.1).1.k 0 vs) a' m' := by
  subst hx; rw [pval, if_neg (not_not_intro h0), if_neg (not_not_intro h1), if_pos h2]
theorem pval_e4 (hx : nx l a = x) (h0 : x.2.2 = 0) (h1 : valE x.1 m deep item = 0) (h2 : ¬ ((beginV x.1).1.k = 3 ∨ (beginV x.1).1.k = 4)) :
    pval (f + 1) l a m deep item = .ok (beginV x.1).1 x.1.2.2.1 (m + 1) := by
  subst hx; rw [pval, if_neg (not_not_intro h0), if_neg (not_not_intro h1), if_neg h2]
theorem pitems_e1 (hx : nx l a = x) (h : x.2.2 ≠ 0) : pitems (f + 1) l a m k deep acc = .bad x.2.1 x.2.2 := by
  subst hx; rw [pitems, if_pos h]
theorem pitems_e2 (hx : nx l a = x) (h0 : x.2.2 = 0) (h1 : shutsK x.1.1) (h2 : x.1.1 ≠ overK k) : pitems (f + 1) l a m k deep acc = .bad x.1.2.1 3 := by
  subst hx; rw [pitems, if_neg (not_not_intro h0), if_pos h1, if_pos h2]
theorem pitems_e3 (hx : nx l a = x) (h0 : x.2.2 = 0) (h1 : shutsK x.1.1) (h2 : x.1.1 = overK k) : pitems (f + 1) l a m k deep acc = .ok acc x.1.2.2.1 m := by
  subst hx; rw [pitems, if_neg (not_not_intro h0), if_pos h1, if_neg (not_not_intro h2)]
theorem pitems_e4 (hx : nx l a = x) (h0 : x.2.2 = 0) (h1 : ¬ shutsK x.1.1) : pitems (f + 1) l a m k deep acc = bindP (pval f l a m (deep + 1) (acc.length + 1)) fun v a' m' => pitems f l a' m' k deep (acc ++ [v]) := by
  subst hx; rw [pitems, if_neg (not_not_intro h0), if_neg h1]
end
/-- Where the rest of two texts is the same, what is read is the same, farther on. -/
theorem read_shift (L L' : List UInt8) (d b0 : Nat) (hn : ∀ b, b0 ≤ b → b ≤ L.length → nx L' (b + d) = shiftNX d (nx L b)) : ∀ f,
    (∀ a m deep item, b0 ≤ a → a ≤ L.length → 2 * (L.length - a) + 1 ≤ f → pval f L' (a + d) m deep item = shiftPR d (pval f L a m deep item)) ∧
    (∀ a m k deep acc, b0 ≤ a → a ≤ L.length → 2 * (L.length - a) + 2 ≤ f → pitems f L' (a + d) m k deep acc = shiftPR d (pitems f L a m k deep acc)) := by
  intro f
  induction f with
  | zero => exact ⟨fun _ _ _ _ _ _ h => by omega, fun _ _ _ _ _ _ _ h => by omega⟩
  | succ f ih =>
    refine ⟨fun a m deep item hb ha hf => ?_, fun a m k deep acc hb ha hf => ?_⟩
    · have hx := hn a hb ha
      by_cases h0 : (nx L a).2.2 = 0
      · have hx' : nx L' (a + d) = (shiftM d (nx L a).1, 0, 0) := by rw [hx]; unfold shiftNX; rw [if_pos h0]
        by_cases h1 : valE (nx L a).1 m deep item = 0
        · have he := nx_end ha h0 (valE_stop h1)
          by_cases h2 : (beginV (nx L a).1).1.k = 3 ∨ (beginV (nx L a).1).1.k = 4
          · rw [pval_e3 rfl h0 h1 h2, pval_e3 hx' rfl h1 h2]
            show bindP (pitems f L' ((nx L a).1.2.2.1 + d) (m + 1) (beginV (nx L a).1).1.k deep []) _ = _
            rw [ih.2 _ _ _ _ _ (by omega) he.2 (by omega)]
            cases pitems f L (nx L a).1.2.2.1 (m + 1) (beginV (nx L a).1).1.k deep [] <;> rfl
          · rw [pval_e4 rfl h0 h1 h2, pval_e4 hx' rfl h1 h2]; rfl
        · rw [pval_e2 rfl h0 h1, pval_e2 hx' rfl h1]; rfl
      · have hx' : nx L' (a + d) = (noMark, (nx L a).2.1 + d, (nx L a).2.2) := by rw [hx]; unfold shiftNX; rw [if_neg h0]
        rw [pval_e1 rfl h0, pval_e1 hx' h0]; rfl
    · have hx := hn a hb ha
      by_cases h0 : (nx L a).2.2 = 0
      · have hx' : nx L' (a + d) = (shiftM d (nx L a).1, 0, 0) := by rw [hx]; unfold shiftNX; rw [if_pos h0]
        by_cases h1 : shutsK (nx L a).1.1
        · by_cases h2 : (nx L a).1.1 = overK k
          · rw [pitems_e3 rfl h0 h1 h2, pitems_e3 hx' rfl h1 h2]; rfl
          · rw [pitems_e2 rfl h0 h1 h2, pitems_e2 hx' rfl h1 h2]; rfl
        · rw [pitems_e4 rfl h0 h1, pitems_e4 hx' rfl h1, ih.1 _ _ _ _ hb ha (by omega)]
          cases hy : pval f L a m (deep + 1) (acc.length + 1) with
          | ok v b n =>
            have e1 := (read_ends f).1 _ _ _ _ _ _ _ _ ha hy
            exact ih.2 _ _ _ _ _ (by omega) e1.2 (by omega)
          | bad p e => rfl
      · have hx' : nx L' (a + d) = (noMark, (nx L a).2.1 + d, (nx L a).2.2) := by rw [hx]; unfold shiftNX; rw [if_neg h0]
        rw [pitems_e1 rfl h0, pitems_e1 hx' h0]; rfl

/-- So far on, behind marks that are right, a mark begins, or the text ends. -/
inductive Ahead : List UInt8 → Nat → Prop
  | stop (bl : List UInt8) (hb : bl.all blankB = true) : Ahead bl bl.length
  | here (bl x t : List UInt8) (hb : bl.all blankB = true) (hc : Cut x t) : Ahead (bl ++ (x ++ t)) bl.length
  | past (bl x t : List UInt8) (j : Nat) (hb : bl.all blankB = true) (hc : Cut x t) (h0 : (lexRun x).2 = 0) (h : Ahead t j) : Ahead (bl ++ (x ++ t)) (bl.length + x.length + j)
theorem Ahead.le {r : List UInt8} {j : Nat} (h : Ahead r j) : j ≤ r.length := by
  induction h with
  | stop bl hb => exact Nat.le_refl _
  | here bl x t hb hc => simp
  | past bl x t j hb hc h0 h ih => simp; omega
/-- Where All is right, a mark's place, or the end, is ahead. -/
theorem ahead_marks (r : List UInt8) : ∀ a k j, (marks a r).2.2 = 0 → ((k = (marks a r).1.length ∧ j = r.length) ∨ (∃ m, (marks a r).1[k]? = some m ∧ a + j = m.2.1)) → Ahead r j := by
  refine text_ind (fun r => ∀ a k j, (marks a r).2.2 = 0 → ((k = (marks a r).1.length ∧ j = r.length) ∨ (∃ m, (marks a r).1[k]? = some m ∧ a + j = m.2.1)) → Ahead r j) ?_ ?_ r
  · intro bl hb a k j _ h
    rw [marks_blank bl a hb] at h
    rcases h with ⟨_, rfl⟩ | ⟨m, hm, _⟩
    · exact .stop bl hb
    · simp at hm
  · intro bl x t hb hc ih a k j h0 h
    rw [marks_blanks bl a _ hb, marks_run _ hc] at h0 h
    by_cases h1 : (lexRun x).2 = 0
    · rw [if_pos h1] at h0 h
      have h2 : (marks (a + bl.length + x.length) t).2.2 = 0 := by
        unfold prep at h0
        split at h0
        · assumption
        · exact h0
      have hp : (prep [runMark (a + bl.length) x] (marks (a + bl.length + x.length) t)).1 = runMark (a + bl.length) x :: (marks (a + bl.length + x.length) t).1 := by
        unfold prep; rw [if_pos h2]; rfl
      rw [hp] at h
      rcases h with ⟨hk, rfl⟩ | ⟨m, hm, hj⟩
      · have := ih (a + bl.length + x.length) _ t.length h2 (.inl ⟨rfl, rfl⟩)
        have e : (bl ++ (x ++ t)).length = bl.length + x.length + t.length := by simp; omega
        rw [e]
        exact .past bl x t _ hb hc h1 this
      · cases k with
        | zero =>
          simp at hm
          subst hm
          have : j = bl.length := by have : a + j = a + bl.length := hj; omega
          subst this
          exact .here bl x t hb hc
        | succ k =>
          have hm' : (marks (a + bl.length + x.length) t).1[k]? = some m := by simpa using hm
          have hs := (marks_stand t _ m (List.mem_of_getElem? hm')).at1
          have := ih (a + bl.length + x.length) k (j - (bl.length + x.length)) h2 (.inr ⟨m, hm', by omega⟩)
          have e : j = bl.length + x.length + (j - (bl.length + x.length)) := by omega
          rw [e]
          exact .past bl x t _ hb hc h1 this
    · rw [if_neg h1] at h0
      exact absurd h0 h1
theorem stops_more {t bl : List UInt8} (j : Nat) (hs : Stops t) (hb : bl.all blankB = true) : Stops (t.take j ++ (bl ++ t.drop j)) := by
  cases t with
  | nil => rw [List.take_nil, List.drop_nil, List.nil_append, List.append_nil]; have := Stops.blanks hb Stops.nil; rwa [List.append_nil] at this
  | cons b r =>
    cases j with
    | zero => rw [List.take_zero, List.drop_zero, List.nil_append]; exact Stops.blanks hb hs
    | succ j =>
      intro c u e
      rw [List.take_succ_cons, List.cons_append] at e
      injection e with e _
      subst e
      exact hs b r rfl
/-- What two readers tell: the same, but for places. -/
def Rel {α : Type} (d at_ : Nat) (P : Nat → Prop) (x y : PR α) : Prop :=
  (∃ v a a' m, x = .ok v a m ∧ y = .ok v a' m ∧ ((a' = a ∧ P a) ∨ (a' = a + d ∧ at_ ≤ a))) ∨ (∃ p p' e, x = .bad p e ∧ y = .bad p' e ∧ (p' = p ∨ p' = p + d))
section
variable (l bl : List UInt8) (at_ : Nat)
def PlB (a : Nat) : Prop := a ≤ at_ ∧ at_ ≤ l.length ∧ Ahead (l.drop a) (at_ - a)
theorem more_drop {a : Nat} (h1 : a ≤ at_) (h2 : at_ ≤ l.length) : (l.take at_ ++ (bl ++ l.drop at_)).drop a = (l.drop a).take (at_ - a) ++ (bl ++ (l.drop a).drop (at_ - a)) := by
  rw [List.drop_append_of_le_length (by rw [List.length_take]; omega), List.drop_drop, show a + (at_ - a) = at_ by omega, List.drop_take]
theorem more_past {b : Nat} (h1 : at_ ≤ b) (h2 : b ≤ l.length) : (l.take at_ ++ (bl ++ l.drop at_)).drop (b + bl.length) = l.drop b := by
  rw [← List.append_assoc, show b + bl.length = (l.take at_ ++ bl).length + (b - at_) by rw [List.length_append, List.length_take]; omega, ← List.drop_drop, List.drop_left, List.drop_drop, show at_ + (b - at_) = b by omega]
/-- The next mark of both texts, ahead of the place where they part. -/
theorem nx_more (hb : bl.all blankB = true) {a : Nat} (h : PlB l at_ a) :
    (nx (l.take at_ ++ (bl ++ l.drop at_)) a = nx l a ∧ (nx l a).2.2 = 0 ∧ (nx l a).1.1 ≠ 10 ∧ PlB l at_ (nx l a).1.2.2.1) ∨
    (nx (l.take at_ ++ (bl ++ l.drop at_)) a = shiftNX bl.length (nx l a) ∧ ((nx l a).1.1 ≠ 10 → (nx l a).2.2 = 0 → at_ ≤ (nx l a).1.2.2.1)) := by
  obtain ⟨h1, h2, h3⟩ := h
  have hd := more_drop l bl at_ h1 h2
  unfold nx
  rw [hd]
  have hz : a + (at_ - a) = at_ := by omega
  generalize hj : at_ - a = j at *
  generalize hr : l.drop a = r at *
  cases h3 with
  | stop b0 hb0 =>
    right
    rw [List.take_length, List.drop_length, List.append_nil]
    have e : ∀ (c : List UInt8), c.all blankB = true → ∀ a, fromRest a c = ((10, a + c.length, a + c.length, 0, []), 0, 0) := fun c hc a => by
      have := rest_blanks c a [] hc
      rw [List.append_nil] at this
      rw [this, fromRest_end _ _ rfl]; rfl
    rw [e _ (by rw [List.all_append, hb0, hb]; rfl), e _ hb0]
    refine ⟨?_, fun hk => absurd rfl hk⟩
    unfold shiftNX
    rw [if_pos rfl]
    show ((10, a + (r ++ bl).length, a + (r ++ bl).length, 0, []), 0, 0) = ((10, a + r.length + bl.length, a + r.length + bl.length, 0, []), 0, 0)
    rw [List.length_append, Nat.add_assoc]
  | here b0 x t hb0 hc =>
    right
    rw [List.take_left, List.drop_left, rest_blanks _ _ _ hb0, rest_blanks _ _ _ hb, rest_blanks _ _ _ hb0, rest_run _ hc, rest_run _ hc, ofGot_shift]
    refine ⟨rfl, fun _ h0 => ?_⟩
    unfold ofGot at h0 ⊢
    split
    · show at_ ≤ a + b0.length + x.length; omega
    · rename_i q; rw [if_neg q] at h0; exact absurd h0 q
  | past b0 x t j0 hb0 hc h0 hA =>
    left
    have e1 : (b0 ++ (x ++ t)).take (b0.length + x.length + j0) = b0 ++ (x ++ t.take j0) := by
      rw [← List.append_assoc, show b0.length + x.length + j0 = (b0 ++ x).length + j0 by rw [List.length_append], List.take_length_add_append, List.append_assoc]
    have e2 : (b0 ++ (x ++ t)).drop (b0.length + x.length + j0) = t.drop j0 := by
      rw [← List.append_assoc, show b0.length + x.length + j0 = (b0 ++ x).length + j0 by rw [List.length_append], ← List.drop_drop, List.drop_left]
    have hc' : Cut x (t.take j0 ++ (bl ++ t.drop j0)) := hc.to fun hs => stops_more j0 hs hb
    rw [e1, e2, List.append_assoc, List.append_assoc, rest_blanks _ _ _ hb0, rest_blanks _ _ _ hb0, rest_run _ hc', rest_run _ hc]
    have hg : ofGot (a + b0.length) x.length (lexRun x) = (((lexRun x).1.1, a + b0.length, a + b0.length + x.length, (lexRun x).1.2.1, (lexRun x).1.2.2), 0, 0) := by unfold ofGot; rw [if_pos h0]
    rw [hg]
    refine ⟨rfl, rfl, ?_, ?_, h2, ?_⟩
    · have := lexRun_kind x
      show (lexRun x).1.1 ≠ 10
      omega
    · show a + b0.length + x.length ≤ at_
      omega
    · have e3 : l.drop (a + b0.length + x.length) = t := by
        rw [Nat.add_assoc, ← List.drop_drop, hr, ← List.append_assoc, show b0.length + x.length = (b0 ++ x).length by rw [List.length_append], List.drop_left]
      show Ahead (l.drop (a + b0.length + x.length)) (at_ - (a + b0.length + x.length))
      rw [e3, show at_ - (a + b0.length + x.length) = j0 by omega]
      exact hA
theorem read_more (hb : bl.all blankB = true) : ∀ f,
    (∀ a m deep item, PlB l at_ a → 2 * (l.length - a) + 1 ≤ f → Rel bl.length at_ (PlB l at_) (pval f l a m deep item) (pval f (l.take at_ ++ (bl ++ l.drop at_)) a m deep item)) ∧
    (∀ a m k deep acc, PlB l at_ a → 2 * (l.length - a) + 2 ≤ f → Rel bl.length at_ (PlB l at_) (pitems f l a m k deep acc) (pitems f (l.take at_ ++ (bl ++ l.drop at_)) a m k deep acc)) := by
  have hsh : ∀ b, at_ ≤ b → b ≤ l.length → nx (l.take at_ ++ (bl ++ l.drop at_)) (b + bl.length) = shiftNX bl.length (nx l b) := fun b h1 h2 => by
    unfold nx; rw [more_past l bl at_ h1 h2, rest_shift]
  have hS := read_shift l (l.take at_ ++ (bl ++ l.drop at_)) bl.length at_ hsh
  intro f
  induction f with
  | zero => exact ⟨fun _ _ _ _ _ h => by omega, fun _ _ _ _ _ _ h => by omega⟩
  | succ f ih =>
    refine ⟨fun a m deep item hP hf => ?_, fun a m k deep acc hP hf => ?_⟩
    · have ha : a ≤ l.length := Nat.le_trans hP.1 hP.2.1
      rcases nx_more l bl at_ hb hP with ⟨hn, h0, hk, hQ⟩ | ⟨hn, hat⟩
      · by_cases h1 : valE (nx l a).1 m deep item = 0
        · have he := nx_end ha h0 hk
          by_cases h2 : (beginV (nx l a).1).1.k = 3 ∨ (beginV (nx l a).1).1.k = 4
          · rw [pval_e3 rfl h0 h1 h2, pval_e3 hn h0 h1 h2]
            rcases ih.2 _ (m + 1) (beginV (nx l a).1).1.k deep [] hQ (by omega) with ⟨v, b, b', n, e1, e2, hh⟩ | ⟨p, p', e, e1, e2, hh⟩
            · rw [e1, e2]; exact .inl ⟨_, _, _, _, rfl, rfl, hh⟩
            · rw [e1, e2]; exact .inr ⟨_, _, _, rfl, rfl, hh⟩
          · rw [pval_e4 rfl h0 h1 h2, pval_e4 hn h0 h1 h2]; exact .inl ⟨_, _, _, _, rfl, rfl, .inl ⟨rfl, hQ⟩⟩
        · rw [pval_e2 rfl h0 h1, pval_e2 hn h0 h1]; exact .inr ⟨_, _, _, rfl, rfl, .inl rfl⟩
      · by_cases h0 : (nx l a).2.2 = 0
        · have hx' : nx (l.take at_ ++ (bl ++ l.drop at_)) a = (shiftM bl.length (nx l a).1, 0, 0) := by rw [hn]; unfold shiftNX; rw [if_pos h0]
          by_cases h1 : valE (nx l a).1 m deep item = 0
          · have hk := valE_stop h1
            have he := nx_end ha h0 hk
            have hat' := hat hk h0
            by_cases h2 : (beginV (nx l a).1).1.k = 3 ∨ (beginV (nx l a).1).1.k = 4
            · rw [pval_e3 rfl h0 h1 h2, pval_e3 hx' rfl h1 h2]
              show Rel _ _ _ _ (bindP (pitems f _ ((nx l a).1.2.2.1 + bl.length) (m + 1) (beginV (nx l a).1).1.k deep []) _)
              rw [(hS f).2 _ _ _ _ _ hat' he.2 (by omega)]
              cases hx : pitems f l (nx l a).1.2.2.1 (m + 1) (beginV (nx l a).1).1.k deep [] with
              | ok v b n =>
                have e1 := (read_ends f).2 _ _ _ _ _ _ _ _ _ he.2 hx
                exact .inl ⟨_, _, _, _, rfl, rfl, .inr ⟨rfl, by omega⟩⟩
              | bad p e => exact .inr ⟨_, _, _, rfl, rfl, .inr rfl⟩
            · rw [pval_e4 rfl h0 h1 h2, pval_e4 hx' rfl h1 h2]; exact .inl ⟨_, _, _, _, rfl, rfl, .inr ⟨rfl, hat'⟩⟩
          · rw [pval_e2 rfl h0 h1, pval_e2 hx' rfl h1]; exact .inr ⟨_, _, _, rfl, rfl, .inr rfl⟩
        · have hx' : nx (l.take at_ ++ (bl ++ l.drop at_)) a = (noMark, (nx l a).2.1 + bl.length, (nx l a).2.2) := by rw [hn]; unfold shiftNX; rw [if_neg h0]
          rw [pval_e1 rfl h0, pval_e1 hx' h0]; exact .inr ⟨_, _, _, rfl, rfl, .inr rfl⟩
    · have ha : a ≤ l.length := Nat.le_trans hP.1 hP.2.1
      have hcont : Rel bl.length at_ (PlB l at_) (bindP (pval f l a m (deep + 1) (acc.length + 1)) fun v a' m' => pitems f l a' m' k deep (acc ++ [v])) (bindP (pval f (l.take at_ ++ (bl ++ l.drop at_)) a m (deep + 1) (acc.length + 1)) fun v a' m' => pitems f (l.take at_ ++ (bl ++ l.drop at_)) a' m' k deep (acc ++ [v])) := by
        rcases ih.1 a m (deep + 1) (acc.length + 1) hP (by omega) with ⟨v, b, b', n, e1, e2, hh⟩ | ⟨p, p', e, e1, e2, hh⟩
        · have en := (read_ends f).1 _ _ _ _ _ _ _ _ ha e1
          rw [e1, e2]
          rcases hh with ⟨rfl, hB⟩ | ⟨rfl, hB⟩
          · exact ih.2 _ n k deep (acc ++ [v]) hB (by omega)
          · show Rel _ _ _ (pitems f l b n k deep (acc ++ [v])) (pitems f _ (b + bl.length) n k deep (acc ++ [v]))
            rw [(hS f).2 _ _ _ _ _ hB en.2 (by omega)]
            cases hx : pitems f l b n k deep (acc ++ [v]) with
            | ok v' b' n' =>
              have e3 := (read_ends f).2 _ _ _ _ _ _ _ _ _ en.2 hx
              exact .inl ⟨_, _, _, _, rfl, rfl, .inr ⟨rfl, by omega⟩⟩
            | bad p e => exact .inr ⟨_, _, _, rfl, rfl, .inr rfl⟩
        · rw [e1, e2]; exact .inr ⟨_, _, _, rfl, rfl, hh⟩
      rcases nx_more l bl at_ hb hP with ⟨hn, h0, hk, hQ⟩ | ⟨hn, hat⟩
      · by_cases h1 : shutsK (nx l a).1.1
        · by_cases h2 : (nx l a).1.1 = overK k
          · rw [pitems_e3 rfl h0 h1 h2, pitems_e3 hn h0 h1 h2]; exact .inl ⟨_, _, _, _, rfl, rfl, .inl ⟨rfl, hQ⟩⟩
          · rw [pitems_e2 rfl h0 h1 h2, pitems_e2 hn h0 h1 h2]; exact .inr ⟨_, _, _, rfl, rfl, .inl rfl⟩
        · rw [pitems_e4 rfl h0 h1, pitems_e4 hn h0 h1]; exact hcont
      · by_cases h0 : (nx l a).2.2 = 0
        · have hx' : nx (l.take at_ ++ (bl ++ l.drop at_)) a = (shiftM bl.length (nx l a).1, 0, 0) := by rw [hn]; unfold shiftNX; rw [if_pos h0]
          by_cases h1 : shutsK (nx l a).1.1
          · have hat' := hat (by unfold shutsK at h1; omega) h0
            by_cases h2 : (nx l a).1.1 = overK k
            · rw [pitems_e3 rfl h0 h1 h2, pitems_e3 hx' rfl h1 h2]; exact .inl ⟨_, _, _, _, rfl, rfl, .inr ⟨rfl, hat'⟩⟩
            · rw [pitems_e2 rfl h0 h1 h2, pitems_e2 hx' rfl h1 h2]; exact .inr ⟨_, _, _, rfl, rfl, .inr rfl⟩
          · rw [pitems_e4 rfl h0 h1, pitems_e4 hx' rfl h1]; exact hcont
        · have hx' : nx (l.take at_ ++ (bl ++ l.drop at_)) a = (noMark, (nx l a).2.1 + bl.length, (nx l a).2.2) := by rw [hn]; unfold shiftNX; rw [if_neg h0]
          rw [pitems_e1 rfl h0, pitems_e1 hx' h0]; exact .inr ⟨_, _, _, rfl, rfl, .inr rfl⟩
/-- What Read tells of both texts. -/
theorem readV_more (hb : bl.all blankB = true) (hA : Ahead l at_) (hl : l.length + bl.length ≤ 65536) :
    (∃ v m, readV l = .ok v 0 m ∧ readV (l.take at_ ++ (bl ++ l.drop at_)) = .ok v 0 m) ∨
    (∃ p p' e, readV l = .bad p e ∧ readV (l.take at_ ++ (bl ++ l.drop at_)) = .bad p' e ∧ (p' = p ∨ p' = p + bl.length)) := by
  have hat := hA.le
  have hP : PlB l at_ 0 := ⟨Nat.zero_le _, hat, by rw [List.drop_zero, Nat.sub_zero]; exact hA⟩
  have hlen : (l.take at_ ++ (bl ++ l.drop at_)).length = l.length + bl.length := by
    rw [List.length_append, List.length_append, List.length_take, List.length_drop]; omega
  have e1 : ∀ l : List UInt8, partV l 0 = pval (fuelV l) l 0 0 1 1 := fun l => partV_in (l := l) (a := 0) (Nat.zero_le _)
  have hf := (read_fuel (fuelV l) (fuelV (l.take at_ ++ (bl ++ l.drop at_)))).1 l 0 0 1 1 (Nat.zero_le _) (by unfold fuelV; omega) (by unfold fuelV; rw [hlen]; omega)
  have hR := (read_more l bl at_ hb (fuelV (l.take at_ ++ (bl ++ l.drop at_)))).1 0 0 1 1 hP (by unfold fuelV; rw [hlen]; omega)
  rw [← hf] at hR
  unfold readV
  rw [if_neg (by omega), if_neg (by rw [hlen]; omega), e1, e1]
  rcases hR with ⟨v, b, b', n, q1, q2, hh⟩ | ⟨p, p', e, q1, q2, hh⟩
  · rw [q1, q2]
    have hbl : b ≤ l.length := ((read_ends _).1 _ _ _ _ _ _ _ _ (Nat.zero_le _) q1).2
    have key : nx (l.take at_ ++ (bl ++ l.drop at_)) b' = nx l b ∨ nx (l.take at_ ++ (bl ++ l.drop at_)) b' = shiftNX bl.length (nx l b) := by
      rcases hh with ⟨rfl, hB⟩ | ⟨rfl, hB⟩
      · rcases nx_more l bl at_ hb hB with ⟨q, _⟩ | ⟨q, _⟩
        · exact .inl q
        · exact .inr q
      · right; unfold nx; rw [more_past l bl at_ hB hbl, rest_shift]
    have fin : ∀ (x : NextR) (w : V) (i : Nat), (fun (v : V) (a m : Nat) => if x.2.2 ≠ 0 then PR.bad x.2.1 x.2.2 else if x.1.1 ≠ 10 then PR.bad x.1.2.1 6 else PR.ok v 0 m) w i n = if x.2.2 ≠ 0 then PR.bad x.2.1 x.2.2 else if x.1.1 ≠ 10 then PR.bad x.1.2.1 6 else PR.ok w 0 n := fun _ _ _ => rfl
    have g1 : ∀ L c, bindP (PR.ok v c n) (fun v a m => if (nx L a).2.2 ≠ 0 then PR.bad (nx L a).2.1 (nx L a).2.2 else if (nx L a).1.1 ≠ 10 then PR.bad (nx L a).1.2.1 6 else PR.ok v 0 m) = if (nx L c).2.2 ≠ 0 then PR.bad (nx L c).2.1 (nx L c).2.2 else if (nx L c).1.1 ≠ 10 then PR.bad (nx L c).1.2.1 6 else PR.ok v 0 n := fun _ _ => rfl
    rw [g1, g1]
    clear g1 fin
    rcases key with key | key
    · rw [key]
      by_cases h0 : (nx l b).2.2 ≠ 0
      · rw [if_pos h0]; exact .inr ⟨_, _, _, rfl, rfl, .inl rfl⟩
      rw [if_neg h0]
      by_cases h1 : (nx l b).1.1 ≠ 10
      · rw [if_pos h1]; exact .inr ⟨_, _, _, rfl, rfl, .inl rfl⟩
      · rw [if_neg h1]; exact .inl ⟨v, n, rfl, rfl⟩
    · by_cases h0 : (nx l b).2.2 ≠ 0
      · have hk : shiftNX bl.length (nx l b) = (noMark, (nx l b).2.1 + bl.length, (nx l b).2.2) := by unfold shiftNX; rw [if_neg h0]
        rw [key, hk, if_pos h0, if_pos h0]
        exact .inr ⟨_, _, _, rfl, rfl, .inr rfl⟩
      have hk : shiftNX bl.length (nx l b) = (shiftM bl.length (nx l b).1, 0, 0) := by unfold shiftNX; rw [if_pos (Decidable.not_not.1 h0)]
      rw [key, hk, if_neg h0, if_neg (show ¬ ((shiftM bl.length (nx l b).1, 0, 0) : NextR).2.2 ≠ 0 from fun h => h rfl)]
      by_cases h1 : (nx l b).1.1 ≠ 10
      · rw [if_pos h1, if_pos (show ((shiftM bl.length (nx l b).1, 0, 0) : NextR).1.1 ≠ 10 from h1)]
        exact .inr ⟨_, _, _, rfl, rfl, .inr rfl⟩
      · rw [if_neg h1, if_neg (show ¬ ((shiftM bl.length (nx l b).1, 0, 0) : NextR).1.1 ≠ 10 from h1)]
        exact .inl ⟨v, n, rfl, rfl⟩
  · rw [q1, q2]
    exact .inr ⟨p, p', e, rfl, rfl, hh⟩
end
end Go.Proofs.YtbhekkkijomglaaGreatDoor
