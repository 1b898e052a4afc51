/- Put together: Num, LexP, LexQ. -/
import Derived.Test.YtbhekkkijomglaaGreatDoorLexS
import Derived.Test.YtbhekkkijomglaaGreatDoorLexJ
import Derived.Lib.ParseIntBCases
import Derived.Lib.ItoaMem
namespace Go.Proofs.YtbhekkkijomglaaGreatDoor
/-! Decimal numerals: what is read of one, and what is written, go back to each other. No program in sight. -/
section
open Go

/-- The number that digits spell. -/
def decVal (acc : Nat) (l : List UInt8) : Nat := l.foldl (fun a c => a * 10 + (c.toNat - 48)) acc
theorem decVal_nil (a : Nat) : decVal a [] = a := by unfold decVal; rw [List.foldl_nil]
theorem decVal_cons (a : Nat) (c : UInt8) (r : List UInt8) : decVal a (c :: r) = decVal (a * 10 + (c.toNat - 48)) r := by unfold decVal; rw [List.foldl_cons]
theorem decVal_append (l m : List UInt8) : ∀ (a : Nat), decVal a (l ++ m) = decVal (decVal a l) m := by
  induction l with
  | nil => intro a; rw [List.nil_append, decVal_nil]
  | cons c r ih => intro a; rw [List.cons_append, decVal_cons, decVal_cons, ih]
theorem decVal_snoc (l : List UInt8) (c : UInt8) (a : Nat) : decVal a (l ++ [c]) = decVal a l * 10 + (c.toNat - 48) := by rw [decVal_append, decVal_cons, decVal_nil]
theorem decVal_ge (l : List UInt8) : ∀ (a : Nat), a ≤ decVal a l := by
  induction l with
  | nil => intro a; rw [decVal_nil]; exact Nat.le_refl a
  | cons c r ih =>
    intro a
    have := ih (a * 10 + (c.toNat - 48))
    rw [decVal_cons]
    omega
theorem dig_iff (c : UInt8) : digB c = true ↔ 48 ≤ c.toNat ∧ c.toNat ≤ 57 := by simp [digB]
theorem dig_of (u : Nat) (h : u < 10) : digB (UInt8.ofNat (48 + u)) = true ∧ (UInt8.ofNat (48 + u)).toNat = 48 + u := by
  have e : (UInt8.ofNat (48 + u)).toNat = 48 + u := by
    rw [UInt8.toNat_ofNat']
    omega
  exact ⟨by rw [dig_iff, e]; omega, e⟩
theorem byte_eq {a b : UInt8} (h : a.toNat = b.toNat) : a = b := UInt8.toNat_inj.1 h

theorem uintM_val (M : Nat) (hM : M ≤ 18446744073709551615) (l : List UInt8) : ∀ (acc : Nat), acc ≤ M → l.all digB = true →
    Lib.parseUintM M acc l = if decVal acc l ≤ M then .ok (decVal acc l) else .range := by
  induction l with
  | nil => intro acc ha _; rw [Lib.parseUintM, decVal_nil, if_pos ha]
  | cons c r ih =>
    intro acc ha h
    simp only [List.all_cons, Bool.and_eq_true] at h
    have hc := (dig_iff c).1 h.1
    have hg := decVal_ge r (acc * 10 + (c.toNat - 48))
    rw [Lib.parseUintM, if_pos hc, decVal_cons]
    by_cases h1 : 1844674407370955162 ≤ acc
    · rw [if_pos h1, if_neg (by omega)]
    rw [if_neg h1]
    by_cases h2 : M < acc * 10 + (c.toNat - 48)
    · rw [if_pos h2, if_neg (by omega)]
    rw [if_neg h2]
    exact ih _ (by omega) h.2

/-- Digits as they are written: a 0 alone, or no 0 ahead. -/
def canon (d : List UInt8) : Prop := d.all digB = true ∧ d ≠ [] ∧ (d = [48] ∨ d.head? ≠ some 48)

theorem dec_pos : ∀ (d : List UInt8), d.all digB = true → d ≠ [] → d.head? ≠ some 48 → 0 < decVal 0 d
  | [], _, h, _ => absurd rfl h
  | c :: r, h, _, h0 => by
    simp only [List.all_cons, Bool.and_eq_true] at h
    have hc := (dig_iff c).1 h.1
    have hne : ¬ c.toNat = 48 := fun e => h0 (by rw [show c = 48 from byte_eq e]; rfl)
    have := decVal_ge r (0 * 10 + (c.toNat - 48))
    rw [decVal_cons]
    omega
theorem head_app {l : List UInt8} (m : List UInt8) (h : l ≠ []) : (l ++ m).head? = l.head? := by
  cases l with
  | nil => exact absurd rfl h
  | cons c r => rfl
/-- What is written of the number that digits spell. -/
theorem dec_back (d : List UInt8) : canon d → Lib.decDigits (decVal 0 d) = d := by
  induction h : d.length using Nat.strongRecOn generalizing d with
  | _ n ih =>
    rintro ⟨hd, hne, hc⟩
    obtain ⟨i, c, rfl⟩ : ∃ i c, d = i ++ [c] := ⟨d.dropLast, d.getLast hne, (List.dropLast_concat_getLast hne).symm⟩
    simp only [List.all_append, List.all_cons, List.all_nil, Bool.and_true, Bool.and_eq_true] at hd
    have hcd := (dig_iff c).1 hd.2
    rw [decVal_snoc]
    by_cases hi0 : i = []
    · subst hi0
      rw [decVal_nil, Lib.decDigits, dif_pos (by omega)]
      simp only [List.nil_append, List.cons.injEq, and_true]
      apply byte_eq
      rw [(dig_of (0 * 10 + (c.toNat - 48)) (by omega)).2]
      omega
    · have hh : i.head? ≠ some 48 := by
        rcases hc with hc | hc
        · exfalso
          have := congrArg List.length hc
          simp at this
          exact hi0 this
        · rwa [head_app _ hi0] at hc
      have hp := dec_pos i hd.1 hi0 hh
      have hlen : i.length < n := by rw [← h]; simp
      have := ih i.length hlen i rfl ⟨hd.1, hi0, .inr hh⟩
      rw [Lib.decDigits, dif_neg (by omega), show (decVal 0 i * 10 + (c.toNat - 48)) / 10 = decVal 0 i by omega, this]
      congr 1
      simp only [List.cons.injEq, and_true]
      apply byte_eq
      rw [(dig_of _ (by omega)).2]
      omega
/-- What is written of a number is digits, and spells it. -/
theorem dec_form (u : Nat) : canon (Lib.decDigits u) ∧ decVal 0 (Lib.decDigits u) = u := by
  induction u using Nat.strongRecOn with
  | _ u ih =>
    by_cases h : u < 10
    · rw [Lib.decDigits, dif_pos h]
      obtain ⟨h1, h2⟩ := dig_of u h
      refine ⟨⟨by rw [List.all_cons, h1]; rfl, by simp, ?_⟩, by rw [decVal_cons, decVal_nil, h2]; omega⟩
      by_cases h0 : u = 0
      · subst h0; exact .inl rfl
      · refine .inr fun e => ?_
        have e' := congrArg UInt8.toNat (Option.some.inj e)
        rw [h2] at e'
        have : (48 : UInt8).toNat = 48 := rfl
        omega
    · rw [Lib.decDigits, dif_neg h]
      obtain ⟨⟨h1, h2, h3⟩, h4⟩ := ih (u / 10) (by omega)
      obtain ⟨g1, g2⟩ := dig_of (u % 10) (by omega)
      refine ⟨⟨by rw [List.all_append, h1, List.all_cons, g1]; rfl, by simp, .inr ?_⟩, by rw [decVal_snoc, h4, g2]; omega⟩
      rw [head_app _ h2]
      rcases h3 with h3 | h3
      · exfalso
        rw [h3] at h4
        have : decVal 0 [48] = 0 := by decide
        omega
      · exact h3

/-- A number as it is written: canonical digits, or those of a number over 0 behind a sign. -/
theorem numForm_iff (l : List UInt8) : numForm l = true ↔ canon l ∨ ∃ d, l = 45 :: d ∧ canon d ∧ d ≠ [48] := by
  cases l with
  | nil =>
    constructor
    · intro h; exact absurd h (by decide)
    · rintro (h | ⟨d, h, _⟩)
      · exact absurd rfl h.2.1
      · cases h
  | cons c r =>
    by_cases hc : c = 45
    · subst hc
      have e48 : ((45 :: r : List UInt8) == [48]) = false := beq_eq_false_iff_ne.2 (by intro h; injection h with h; exact absurd h (by decide))
      rw [numForm, digitsOf, trim_neg, e48, Bool.false_or]
      simp only [Bool.and_eq_true, Bool.not_eq_true', List.isEmpty_eq_false_iff, bne_iff_ne]
      constructor
      · rintro ⟨h1, h2, h3⟩
        exact .inr ⟨r, rfl, ⟨h1, h2, .inr h3⟩, fun e => by rw [e] at h3; exact h3 rfl⟩
      · rintro (h | ⟨d, h, ⟨h1, h2, h3⟩, h4⟩)
        · exact absurd h.1 (by simp [digB])
        · injection h with _ h
          subst h
          exact ⟨h1, h2, h3.resolve_left h4⟩
    · rw [numForm, digitsOf, trim_pos c r hc]
      simp only [Bool.and_eq_true, Bool.or_eq_true, beq_iff_eq, Bool.not_eq_true', List.isEmpty_eq_false_iff, bne_iff_ne]
      constructor
      · rintro ⟨h1, h2⟩
        refine .inl ⟨h1, by simp, ?_⟩
        rcases h2 with h2 | h2
        · exact .inl h2
        · exact .inr h2.2
      · rintro (⟨h1, h2, h3⟩ | ⟨d, h, _⟩)
        · refine ⟨h1, ?_⟩
          rcases h3 with h3 | h3
          · exact .inl h3
          · exact .inr ⟨h2, h3⟩
        · injection h with h _; exact absurd h hc

/-- What ParseInt tells of canonical digits; of those behind a sign. -/
theorem parse_plain (d : List UInt8) (h : canon d) : Lib.parseIntB 64 d = if decVal 0 d < 9223372036854775808 then .ok (decVal 0 d : Int) else .range := by
  obtain ⟨h1, h2, h3⟩ := h
  cases d with
  | nil => exact absurd rfl h2
  | cons c r =>
    have hc : 48 ≤ c.toNat ∧ c.toNat ≤ 57 := by
      simp only [List.all_cons, Bool.and_eq_true] at h1
      exact (dig_iff c).1 h1.1
    rw [Lib.parseIntB_plain 64 c r (by omega) (by omega), Lib.parseUintB, if_neg h2, uintM_val _ (by decide) _ _ (Nat.zero_le _) h1]
    have e1 : (2 ^ 64 - 1 : Nat) = 18446744073709551615 := rfl
    have e2 : (2 ^ (64 - 1) : Nat) = 9223372036854775808 := rfl
    rw [e1, e2]
    generalize decVal 0 (c :: r) = v
    by_cases hv : v < 9223372036854775808
    · rw [if_pos (by omega), if_pos hv]
      show (if 9223372036854775808 ≤ v then _ else _) = _
      rw [if_neg (by omega)]
    · rw [if_neg hv]
      by_cases hv2 : v ≤ 18446744073709551615
      · rw [if_pos hv2]
        show (if 9223372036854775808 ≤ v then _ else _) = _
        rw [if_pos (by omega)]
      · rw [if_neg hv2]; rfl
theorem parse_minus (d : List UInt8) (h : canon d) : Lib.parseIntB 64 (45 :: d) = if decVal 0 d ≤ 9223372036854775808 then .ok (-(decVal 0 d : Int)) else .range := by
  obtain ⟨h1, h2, h3⟩ := h
  rw [Lib.parseIntB_minus, Lib.parseUintB, if_neg h2, uintM_val _ (by decide) _ _ (Nat.zero_le _) h1]
  have e1 : (2 ^ 64 - 1 : Nat) = 18446744073709551615 := rfl
  have e2 : (2 ^ (64 - 1) : Nat) = 9223372036854775808 := rfl
  rw [e1, e2]
  generalize decVal 0 d = v
  by_cases hv : v ≤ 9223372036854775808
  · rw [if_pos (by omega), if_pos hv]
    show (if 9223372036854775808 < v then _ else _) = _
    rw [if_neg (by omega)]
  · rw [if_neg hv]
    by_cases hv2 : v ≤ 18446744073709551615
    · rw [if_pos hv2]
      show (if 9223372036854775808 < v then _ else _) = _
      rw [if_pos (by omega)]
    · rw [if_neg hv2]; rfl

/-- What is read of a numeral is written as it. -/
theorem num_back (x : List UInt8) (h : (lexNum x).2 = 0) : ∃ v, lexNum x = ((8, v, []), 0) ∧ Lib.itoa v = x ∧ -9223372036854775808 ≤ v ∧ v ≤ 9223372036854775807 := by
  unfold lexNum at h ⊢
  by_cases hf : numForm x = true
  · rw [if_pos hf] at h ⊢
    rcases (numForm_iff x).1 hf with hc | ⟨d, rfl, hc, h0⟩
    · rw [parse_plain x hc] at h ⊢
      by_cases hv : decVal 0 x < 9223372036854775808
      · rw [if_pos hv]
        exact ⟨_, rfl, by rw [Lib.itoa_nonneg]; exact dec_back x hc, by omega, by omega⟩
      · rw [if_neg hv] at h; exact absurd h (by decide)
    · rw [parse_minus d hc] at h ⊢
      by_cases hv : decVal 0 d ≤ 9223372036854775808
      · rw [if_pos hv]
        have hp : 0 < decVal 0 d := dec_pos d hc.1 hc.2.1 (hc.2.2.resolve_left h0)
        exact ⟨_, rfl, by rw [Lib.itoa_neg _ (by omega), dec_back d hc], by omega, by omega⟩
      · rw [if_neg hv] at h; exact absurd h (by decide)
  · rw [if_neg hf] at h; exact absurd h (by decide)
/-- What is written of a number is read as it. -/
theorem num_form (v : Int) (h0 : -9223372036854775808 ≤ v) (h1 : v ≤ 9223372036854775807) : lexNum (Lib.itoa v) = ((8, v, []), 0) := by
  by_cases hv : v < 0
  · obtain ⟨u, rfl⟩ : ∃ u : Nat, v = -(u : Int) := ⟨v.natAbs, by omega⟩
    obtain ⟨hc, hd⟩ := dec_form u
    rw [Lib.itoa_neg u (by omega)]
    have hf : numForm (45 :: Lib.decDigits u) = true := (numForm_iff _).2 (.inr ⟨_, rfl, hc, fun e => by
      rw [e] at hd
      have : decVal 0 [48] = 0 := by decide
      omega⟩)
    rw [lexNum, if_pos hf, parse_minus _ hc, hd, if_pos (by omega)]
  · obtain ⟨u, rfl⟩ : ∃ u : Nat, v = (u : Int) := ⟨v.toNat, by omega⟩
    obtain ⟨hc, hd⟩ := dec_form u
    rw [Lib.itoa_nonneg]
    have hf : numForm (Lib.decDigits u) = true := (numForm_iff _).2 (.inl hc)
    rw [lexNum, if_pos hf, parse_plain _ hc, hd, if_pos (by omega)]
end

/-! Runs of a text, and its marks: plain laws. No program in sight. -/
section
open Go

/-! ### Runs -/
theorem br_stop {b : UInt8} (h : brB b = true) : stopB b = true := by unfold stopB; rw [h, Bool.or_true]
theorem br_blank {b : UInt8} (h : brB b = true) : blankB b = false := by
  unfold blankB
  by_cases h1 : b = 32
  · subst h1; exact absurd h (by decide)
  by_cases h2 : b = 10
  · subst h2; exact absurd h (by decide)
  simp [h1, h2]
theorem blank_stop {b : UInt8} (h : blankB b = true) : stopB b = true := by unfold stopB; rw [h, Bool.true_or]
theorem go_blank {b : UInt8} (h : stopB b = false) : blankB b = false := by
  unfold stopB at h
  simp only [Bool.or_eq_false_iff] at h
  exact h.1
theorem go_br {b : UInt8} (h : stopB b = false) : brB b = false := by
  unfold stopB at h
  simp only [Bool.or_eq_false_iff] at h
  exact h.2

/-- Nothing follows, or a blank or a bracket. -/
def Stops (r : List UInt8) : Prop := ∀ b t, r = b :: t → stopB b = true
/-- A run, and what is behind it. -/
structure Cut (x t : List UInt8) : Prop where
  ne : x ≠ []
  run : (brB (x.headD 0) = true ∧ x.length = 1) ∨ ((∀ c ∈ x, stopB c = false) ∧ Stops t)
theorem Stops.nil : Stops [] := fun _ _ h => by cases h
theorem Stops.app {r s : List UInt8} (h : Stops r) (hs : Stops s) : Stops (r ++ s) := by
  cases r with
  | nil => exact hs
  | cons b t => intro c u e; injection e with e _; subst e; exact h b t rfl
theorem Stops.blanks {bl s : List UInt8} (h : bl.all blankB = true) (hs : Stops s) : Stops (bl ++ s) := by
  refine Stops.app (fun b t e => ?_) hs
  subst e
  simp only [List.all_cons, Bool.and_eq_true] at h
  exact blank_stop h.1
theorem Cut.app {x t s : List UInt8} (h : Cut x t) (hs : Stops s) : Cut x (t ++ s) :=
  ⟨h.ne, h.run.imp id fun k => ⟨k.1, k.2.app hs⟩⟩
theorem Cut.to {x t s : List UInt8} (h : Cut x t) (hs : Stops t → Stops s) : Cut x s := ⟨h.ne, h.run.imp id fun k => ⟨k.1, hs k.2⟩⟩
theorem Cut.head {x t : List UInt8} (h : Cut x t) : blankB (x.headD 0) = false := by
  rcases h.run with ⟨k, _⟩ | ⟨k, _⟩
  · exact br_blank k
  · cases x with
    | nil => exact absurd rfl h.ne
    | cons b r => exact go_blank (k b (by simp))
theorem Cut.pos {x t : List UInt8} (h : Cut x t) : 0 < x.length := by
  cases x with
  | nil => exact absurd rfl h.ne
  | cons b r => simp

theorem takeWhile_app (f : UInt8 → Bool) : ∀ (x t : List UInt8), (∀ c ∈ x, f c = true) → (∀ b u, t = b :: u → f b = false) → (x ++ t).takeWhile f = x
  | [], t, _, h => by
    cases t with
    | nil => rfl
    | cons b u => simp [h b u rfl]
  | c :: r, t, hx, h => by
    rw [List.cons_append, List.takeWhile_cons, hx c (by simp), if_pos rfl, takeWhile_app f r t (fun d hd => hx d (by simp [hd])) h]
theorem cut_len {x t : List UInt8} (h : Cut x t) : runLen (x ++ t) = x.length := by
  cases x with
  | nil => exact absurd rfl h.ne
  | cons b r =>
    rcases h.run with ⟨k, hl⟩ | ⟨k, ht⟩
    · rw [List.cons_append, runLen, if_pos (br_stop (show brB b = true from k)), hl]
    · rw [List.cons_append, runLen, if_neg (by simp [k b (by simp)]), ← List.cons_append, takeWhile_app _ (b :: r) t (fun c hc => by simp [k c hc]) (fun c u e => by simp [ht c u e])]
theorem cut_skip {x t : List UInt8} (h : Cut x t) : skipN (x ++ t) = 0 := by
  have hh := h.head
  cases x with
  | nil => exact absurd rfl h.ne
  | cons b r =>
    have hb : blankB b = false := hh
    unfold skipN
    rw [List.cons_append, List.takeWhile_cons, hb]
    simp
theorem rest_run (a : Nat) {x t : List UInt8} (h : Cut x t) : fromRest a (x ++ t) = ofGot a x.length (lexRun x) := by
  have h0 := h.pos
  rw [fromRest_run a _ (by rw [cut_skip h, List.length_append]; omega), cut_skip h, List.drop_zero, Nat.add_zero, fromRun, cut_len h, List.take_left]
theorem rest_blank (a : Nat) (b : UInt8) (r : List UInt8) (hb : blankB b = true) : fromRest a (b :: r) = fromRest (a + 1) r := by
  have hs : skipN (b :: r) = skipN r + 1 := by unfold skipN; rw [List.takeWhile_cons, hb, if_pos rfl, List.length_cons]
  rcases Nat.lt_or_eq_of_le (skipN_le r) with h | h
  · rw [fromRest_run a _ (by rw [hs, List.length_cons]; omega), fromRest_run _ _ h, hs, List.drop_succ_cons]
    congr 1
    omega
  · rw [fromRest_end a _ (by rw [hs, List.length_cons, h]), fromRest_end _ _ h, List.length_cons]
    rw [show a + (r.length + 1) = a + 1 + r.length by omega]
theorem rest_blanks : ∀ (bl : List UInt8) (a : Nat) (r : List UInt8), bl.all blankB = true → fromRest a (bl ++ r) = fromRest (a + bl.length) r
  | [], a, r, _ => rfl
  | b :: bl, a, r, h => by
    simp only [List.all_cons, Bool.and_eq_true] at h
    rw [List.cons_append, rest_blank a b _ h.1, rest_blanks bl (a + 1) r h.2, List.length_cons]
    congr 1
    omega

theorem takeWhile_take (f : UInt8 → Bool) : ∀ l : List UInt8, (l.takeWhile f) = l.take (l.takeWhile f).length
  | [] => rfl
  | b :: r => by
    by_cases h : f b = true
    · simp only [List.takeWhile_cons, h, if_true, List.length_cons, List.take_succ_cons]; rw [← takeWhile_take f r]
    · simp [List.takeWhile_cons, h]
theorem takeWhile_all (f : UInt8 → Bool) : ∀ l : List UInt8, ∀ c ∈ l.takeWhile f, f c = true
  | [], _, h => by simp at h
  | b :: r, c, h => by
    by_cases hb : f b = true
    · simp only [List.takeWhile_cons, hb, if_true, List.mem_cons] at h
      rcases h with rfl | h
      · exact hb
      · exact takeWhile_all f r c h
    · simp [List.takeWhile_cons, hb] at h
theorem takeWhile_next (f : UInt8 → Bool) : ∀ l : List UInt8, ∀ b t, l.drop (l.takeWhile f).length = b :: t → f b = false
  | [], _, _, h => by simp at h
  | c :: r, b, t, h => by
    by_cases hc : f c = true
    · simp only [List.takeWhile_cons, hc, if_true, List.length_cons, List.drop_succ_cons] at h
      exact takeWhile_next f r b t h
    · simp [List.takeWhile_cons, hc] at h
      obtain ⟨rfl, _⟩ := h
      simpa using hc
/-- A text that is not blanks alone: blanks, a run, and the rest. -/
theorem split_text (r : List UInt8) (h : skipN r < r.length) : ∃ bl x t, r = bl ++ (x ++ t) ∧ bl.all blankB = true ∧ Cut x t := by
  have e := takeWhile_take blankB r
  have ha := takeWhile_all blankB r
  have hn := takeWhile_next blankB r
  have hr : r = r.takeWhile blankB ++ r.drop (skipN r) := by
    have := List.take_append_drop (r.takeWhile blankB).length r
    rw [← e] at this
    exact this.symm
  change ∀ b t, r.drop (skipN r) = b :: t → _ at hn
  generalize hq : r.drop (skipN r) = q at *
  cases q with
  | nil => have := congrArg List.length hq; simp at this; omega
  | cons b t =>
    have hb := hn b t rfl
    refine ⟨r.takeWhile blankB, (b :: t).take (runLen (b :: t)), (b :: t).drop (runLen (b :: t)), ?_, ?_, ?_, ?_⟩
    · rw [List.take_append_drop]; exact hr
    · rw [List.all_eq_true]; exact ha
    · intro e2
      have := congrArg List.length e2
      have hp := runLen_pos b t
      rw [List.length_take, List.length_cons, List.length_nil] at this
      omega
    · by_cases hs : stopB b = true
      · have hbr : brB b = true := by
          unfold stopB at hs
          rw [hb, Bool.false_or] at hs
          exact hs
        refine .inl ?_
        rw [runLen, if_pos hs]
        exact ⟨hbr, rfl⟩
      · refine .inr ?_
        rw [runLen, if_neg hs]
        refine ⟨fun c hc => ?_, fun c u e2 => ?_⟩
        · rw [← takeWhile_take] at hc
          simpa using takeWhile_all (fun x => !stopB x) (b :: t) c hc
        · simpa using takeWhile_next (fun x => !stopB x) (b :: t) c u e2
/-- Texts go by blanks, runs and rests. -/
theorem text_ind (P : List UInt8 → Prop) (h1 : ∀ bl, bl.all blankB = true → P bl) (h2 : ∀ bl x t, bl.all blankB = true → Cut x t → P t → P (bl ++ (x ++ t))) (r : List UInt8) : P r := by
  induction h : r.length using Nat.strongRecOn generalizing r with
  | _ n ih =>
    rcases Nat.lt_or_eq_of_le (skipN_le r) with hs | hs
    · obtain ⟨bl, x, t, rfl, hb, hc⟩ := split_text r hs
      have := hc.pos
      exact h2 bl x t hb hc (ih t.length (by rw [← h, List.length_append, List.length_append]; omega) t rfl)
    · refine h1 r ?_
      rw [List.all_eq_true]
      have e := takeWhile_take blankB r
      change r.takeWhile blankB = r.take (skipN r) at e
      rw [hs, List.take_length] at e
      have ha := takeWhile_all blankB r
      rw [e] at ha
      exact ha

/-! ### The marks of a text -/
theorem allRest_fuel : ∀ (f f' a : Nat) (r : List UInt8), r.length < f → r.length < f' → allRest f a r = allRest f' a r
  | 0, _, _, _, h, _ => absurd h (Nat.not_lt_zero _)
  | _ + 1, 0, _, _, _, h => absurd h (Nat.not_lt_zero _)
  | f + 1, f' + 1, a, r, h, h' => by
    rw [allRest, allRest]
    by_cases h1 : (fromRest a r).2.2 ≠ 0
    · rw [if_pos h1, if_pos h1]
    rw [if_neg h1, if_neg h1]
    by_cases h2 : (fromRest a r).1.1 = 10
    · rw [if_pos h2, if_pos h2]
    have h3 := fromRest_ends a r (by omega) h2
    rw [allRest_fuel f f' _ (r.drop ((fromRest a r).1.2.2.1 - a)) (by rw [List.length_drop]; omega) (by rw [List.length_drop]; omega)]
def marks (a : Nat) (r : List UInt8) : List MarkT × Nat × Nat := allRest (r.length + 1) a r
theorem marks_fuel {f a : Nat} {r : List UInt8} (h : r.length < f) : allRest f a r = marks a r := allRest_fuel _ _ _ _ h (by omega)
theorem prep_marks (a : Nat) (r : List UInt8) : prep [] (marks a r) = marks a r := prep_nil _ _ _
theorem marks_ok {a : Nat} {r : List UInt8} (h : (marks a r).2.2 = 0) : (marks a r).2.1 = 0 := allRest_ok _ _ _ h
theorem marks_none {a : Nat} {r : List UInt8} (h : (marks a r).2.2 ≠ 0) : (marks a r).1 = [] := allRest_bad _ _ _ h
theorem marks_at (a : Nat) (r : List UInt8) : marks a r = if (fromRest a r).2.2 ≠ 0 then ([], (fromRest a r).2.1, (fromRest a r).2.2)
    else if (fromRest a r).1.1 = 10 then ([], 0, 0) else prep [(fromRest a r).1] (marks (fromRest a r).1.2.2.1 (r.drop ((fromRest a r).1.2.2.1 - a))) := by
  have e := prep_nil (r.length + 1) a r
  rw [marks, ← e]
  by_cases h1 : (fromRest a r).2.2 ≠ 0
  · rw [if_pos h1, prep_bad [] _ a r h1]
  rw [if_neg h1]
  by_cases h2 : (fromRest a r).1.1 = 10
  · rw [if_pos h2, prep_stop [] _ a r (by omega) h2]
  have h3 := fromRest_ends a r (by omega) h2
  rw [if_neg h2, prep_more [] _ a r (by omega) h2, List.nil_append, marks_fuel]
  rw [List.length_drop]
  omega
theorem marks_blanks (bl : List UInt8) (a : Nat) (r : List UInt8) (hb : bl.all blankB = true) : marks a (bl ++ r) = marks (a + bl.length) r := by
  rw [marks_at, marks_at (a + bl.length), rest_blanks bl a r hb]
  by_cases h1 : (fromRest (a + bl.length) r).2.2 ≠ 0
  · rw [if_pos h1, if_pos h1]
  rw [if_neg h1, if_neg h1]
  by_cases h2 : (fromRest (a + bl.length) r).1.1 = 10
  · rw [if_pos h2, if_pos h2]
  have h3 := fromRest_ends (a + bl.length) r (by omega) h2
  rw [if_neg h2, if_neg h2]
  generalize (fromRest (a + bl.length) r).1 = m at *
  have : (bl ++ r).drop (m.2.2.1 - a) = r.drop (m.2.2.1 - (a + bl.length)) := by
    rw [List.drop_append, List.drop_eq_nil_of_le (by omega), List.nil_append]
    congr 1
    omega
  rw [this]
theorem marks_nil (a : Nat) : marks a [] = ([], 0, 0) := by
  have : fromRest a [] = ((10, a, a, 0, []), 0, 0) := fromRest_end a [] rfl
  rw [marks_at, this]
  rfl
theorem marks_blank (bl : List UInt8) (a : Nat) (hb : bl.all blankB = true) : marks a bl = ([], 0, 0) := by
  have := marks_blanks bl a [] hb
  rw [List.append_nil, marks_nil] at this
  exact this
def runMark (a : Nat) (x : List UInt8) : MarkT := ((lexRun x).1.1, a, a + x.length, (lexRun x).1.2.1, (lexRun x).1.2.2)
theorem marks_run (a : Nat) {x t : List UInt8} (h : Cut x t) : marks a (x ++ t) = if (lexRun x).2 = 0 then prep [runMark a x] (marks (a + x.length) t) else ([], a, (lexRun x).2) := by
  have hk := lexRun_kind x
  rw [marks_at, rest_run a h]
  unfold ofGot
  by_cases h0 : (lexRun x).2 = 0
  · rw [if_pos h0, if_pos h0, if_neg (by simp), if_neg (by show (lexRun x).1.1 ≠ 10; omega)]
    show prep [runMark a x] (marks (a + x.length) ((x ++ t).drop (a + x.length - a))) = _
    rw [show a + x.length - a = x.length by omega, List.drop_left]
  · rw [if_neg h0, if_neg h0, if_pos h0]
theorem marks_lex (l : List UInt8) (h : l.length ≤ 65536) : lexAll l = marks 0 l := by rw [lexAll, if_neg (by omega), marks]

/-- Behind marks that are right: a text's rest. -/
def behind (x y : List MarkT × Nat × Nat) : List MarkT × Nat × Nat := if x.2.2 = 0 then prep x.1 y else ([], x.2)
theorem prep_prep (m l : List MarkT) (y : List MarkT × Nat × Nat) : prep m (prep l y) = prep (m ++ l) y := by
  unfold prep
  by_cases h : y.2.2 = 0
  · rw [if_pos h, if_pos rfl, if_pos h, List.append_assoc]
  · rw [if_neg h, if_neg h, if_neg h]
theorem behind_prep (m : List MarkT) (x y : List MarkT × Nat × Nat) : behind (prep m x) y = prep m (behind x y) := by
  unfold behind
  by_cases h : x.2.2 = 0
  · rw [if_pos h, prep_prep]
    unfold prep
    rw [if_pos h, if_pos rfl]
  · rw [if_neg h]
    unfold prep
    rw [if_neg h, if_neg h, if_neg h]
theorem marks_two (t : List UInt8) (r : List UInt8) : ∀ a, marks a (r ++ 32 :: t) = behind (marks a r) (marks (a + r.length + 1) t) := by
  refine text_ind (fun r => ∀ a, marks a (r ++ 32 :: t) = behind (marks a r) (marks (a + r.length + 1) t)) ?_ ?_ r
  · intro bl hb a
    have h2 := marks_blanks (bl ++ [32]) a t (by rw [List.all_append, hb]; rfl)
    rw [List.append_assoc, List.length_append, List.length_singleton, ← Nat.add_assoc] at h2
    show marks a (bl ++ ([32] ++ t)) = _
    rw [h2, marks_blank bl a hb]
    show _ = prep [] _
    rw [prep_marks]
  · intro bl x u hb hc ih a
    have hc2 := hc.app (s := 32 :: t) (fun b v e => by injection e with e _; subst e; rfl)
    have e : bl ++ (x ++ u) ++ 32 :: t = bl ++ (x ++ (u ++ 32 :: t)) := by simp only [List.append_assoc]
    rw [e, marks_blanks bl a _ hb, marks_blanks bl a _ hb, marks_run _ hc2, marks_run _ hc, ih]
    have el : a + bl.length + x.length + u.length + 1 = a + (bl ++ (x ++ u)).length + 1 := by simp only [List.length_append]; omega
    rw [el]
    by_cases h0 : (lexRun x).2 = 0
    · rw [if_pos h0, if_pos h0, behind_prep]
    · rw [if_neg h0, if_neg h0, behind, if_neg h0]

/-- So much farther on. -/
def shiftM (d : Nat) (m : MarkT) : MarkT := (m.1, m.2.1 + d, m.2.2.1 + d, m.2.2.2.1, m.2.2.2.2)
def shiftA (d : Nat) (x : List MarkT × Nat × Nat) : List MarkT × Nat × Nat := if x.2.2 = 0 then (x.1.map (shiftM d), 0, 0) else ([], x.2.1 + d, x.2.2)
theorem shift_prep (d : Nat) (m : List MarkT) (x : List MarkT × Nat × Nat) : shiftA d (prep m x) = prep (m.map (shiftM d)) (shiftA d x) := by
  unfold prep shiftA
  by_cases h : x.2.2 = 0
  · rw [if_pos h, if_pos h, if_pos rfl, if_pos rfl, List.map_append]
  · rw [if_neg h, if_neg h, if_neg h, if_neg h]
theorem marks_shift (d : Nat) (r : List UInt8) : ∀ a, marks (a + d) r = shiftA d (marks a r) := by
  refine text_ind (fun r => ∀ a, marks (a + d) r = shiftA d (marks a r)) ?_ ?_ r
  · intro bl hb a
    rw [marks_blank bl _ hb, marks_blank bl _ hb]; rfl
  · intro bl x t hb hc ih a
    rw [marks_blanks bl _ _ hb, marks_blanks bl _ _ hb, marks_run _ hc, marks_run _ hc]
    have e1 : a + d + bl.length = a + bl.length + d := by omega
    have e2 : a + bl.length + d + x.length = a + bl.length + x.length + d := by omega
    rw [e1, e2, ih]
    by_cases h0 : (lexRun x).2 = 0
    · rw [if_pos h0, if_pos h0, shift_prep]
      have : runMark (a + bl.length + d) x = shiftM d (runMark (a + bl.length) x) := by
        unfold runMark shiftM
        rw [e2]
      rw [this]; rfl
    · rw [if_neg h0, if_neg h0, shiftA, if_neg h0]

/-! ### What Show tells of a run, and the other way about -/
theorem br_list : ∀ b : UInt8, brB b = true → (brList.drop (brK b - 1)).take 1 = [b] ∧ 1 ≤ brK b ∧ brK b ≤ 6 := by
  intro b h
  unfold brB brK at h
  unfold brK
  by_cases h1 : b = 40
  · subst h1; decide
  by_cases h2 : b = 41
  · subst h2; decide
  by_cases h3 : b = 91
  · subst h3; decide
  by_cases h4 : b = 93
  · subst h4; decide
  by_cases h5 : b = 60
  · subst h5; decide
  by_cases h6 : b = 62
  · subst h6; decide
  simp [h1, h2, h3, h4, h5, h6] at h
theorem show_of (k : Nat) (n : Int) (l x : List UInt8) (h1 : showRun k n l = x) (hx : x ≠ []) (h2 : k = 8 ∨ n = 0) (h3 : k = 7 ∨ k = 9 ∨ l = []) : lexShow k n l = (x, 0) := by
  rw [lexShow, if_neg, h1]
  rw [h1]
  rintro (h | ⟨h4, h5⟩ | ⟨h4, h5, h6⟩)
  · exact hx h
  · rcases h2 with h2 | h2
    · exact h4 h2
    · exact h5 h2
  · rcases h3 with h3 | h3 | h3
    · exact h4 h3
    · exact h5 h3
    · exact h6 h3
theorem isB_iff (l : List UInt8) : isB l = true ↔ l.length ≤ 1024 ∧ l.all bitB = true := by simp [isB, oddB]
/-- Show of a run's mark is the run. -/
theorem run_show {x t : List UInt8} (hc : Cut x t) (h : (lexRun x).2 = 0) : lexShow (lexRun x).1.1 (lexRun x).1.2.1 (lexRun x).1.2.2 = (x, 0) ∧ -9223372036854775808 ≤ (lexRun x).1.2.1 ∧ (lexRun x).1.2.1 ≤ 9223372036854775807 := by
  have hne := hc.ne
  unfold lexRun at h ⊢
  by_cases h1 : brB (x.headD 0) = true
  · rw [if_pos h1]
    have hl : x.length = 1 := by
      rcases hc.run with ⟨_, hl⟩ | ⟨k, _⟩
      · exact hl
      · cases x with
        | nil => exact absurd rfl hne
        | cons b r => exact absurd h1 (by rw [show (b :: r).headD 0 = b from rfl, go_br (k b (by simp))]; decide)
    cases x with
    | nil => exact absurd rfl hne
    | cons b r =>
      have : r = [] := by simpa using hl
      subst this
      obtain ⟨e1, e2, e3⟩ := br_list b h1
      exact ⟨show_of _ _ _ _ (by show showRun (brK b) 0 [] = _; rw [showRun, if_pos ⟨e2, e3⟩]; exact e1) hne (.inr rfl) (.inr (.inr rfl)), (by decide : (-9223372036854775808 : Int) ≤ 0), (by decide : (0 : Int) ≤ 9223372036854775807)⟩
  rw [if_neg h1] at h ⊢
  by_cases h2 : lettersB x = true
  · rw [if_pos h2]
    exact ⟨show_of _ _ _ _ (by show showRun 7 0 x = _; rw [showRun, if_neg (by omega), if_pos rfl, if_pos h2]) hne (.inr rfl) (.inl rfl), (by decide : (-9223372036854775808 : Int) ≤ 0), (by decide : (0 : Int) ≤ 9223372036854775807)⟩
  rw [if_neg h2] at h ⊢
  by_cases h3 : (x.headD 0 == 45 || digB (x.headD 0)) = true
  · rw [if_pos h3] at h ⊢
    obtain ⟨v, e1, e2, e3, e4⟩ := num_back x h
    rw [e1]
    exact ⟨show_of _ _ _ _ (by show showRun 8 v [] = _; rw [showRun, if_neg (by omega), if_neg (by omega), if_pos rfl]; exact e2) hne (.inl rfl) (.inr (.inr rfl)), e3, e4⟩
  rw [if_neg h3] at h ⊢
  by_cases h4 : (x.headD 0 == 35) = true
  · rw [if_pos h4] at h ⊢
    unfold lexRow at h ⊢
    by_cases h5 : (x.drop 1).all bitB = true
    · rw [if_pos h5] at h ⊢
      by_cases h6 : (x.drop 1).length ≤ 1024
      · rw [if_pos h6]
        refine ⟨show_of _ _ _ _ ?_ hne (.inr rfl) (.inr (.inl rfl)), (by decide : (-9223372036854775808 : Int) ≤ 0), (by decide : (0 : Int) ≤ 9223372036854775807)⟩
        show showRun 9 0 (x.drop 1) = x
        rw [showRun, if_neg (by omega), if_neg (by omega), if_neg (by omega), if_pos rfl, if_pos ((isB_iff _).2 ⟨h6, h5⟩)]
        cases x with
        | nil => exact absurd rfl hne
        | cons b r => rw [show b = 35 from by simpa using h4]; rfl
      · rw [if_neg h6] at h; exact absurd h (by decide)
    · rw [if_neg h5] at h; exact absurd h (by decide)
  · rw [if_neg h4] at h; exact absurd h (by decide)

theorem let_go {c : UInt8} (h : letB c = true) : stopB c = false ∧ digB c = false ∧ c ≠ 45 ∧ c ≠ 35 := by
  simp only [letB, Bool.and_eq_true, decide_eq_true_eq] at h
  have hne : ∀ d : UInt8, d.toNat < 97 → ¬ c = d := fun d hd e => by subst e; omega
  refine ⟨?_, ?_, hne 45 (by decide), hne 35 (by decide)⟩
  · simp [stopB, blankB, brB, brK, hne 32 (by decide), hne 10 (by decide), hne 40 (by decide), hne 41 (by decide), hne 91 (by decide), hne 93 (by decide), hne 60 (by decide), hne 62 (by decide)]
  · have : ¬ c.toNat ≤ 57 := by omega
    simp [digB, this]
theorem dig_go {c : UInt8} (h : digB c = true) : stopB c = false ∧ letB c = false := by
  rw [dig_iff] at h
  have h1 : ∀ d : UInt8, d.toNat < 48 → ¬ c = d := fun d hd e => by subst e; omega
  have h2 : ∀ d : UInt8, 57 < d.toNat → ¬ c = d := fun d hd e => by subst e; omega
  refine ⟨?_, ?_⟩
  · simp [stopB, blankB, brB, brK, h1 32 (by decide), h1 10 (by decide), h1 40 (by decide), h1 41 (by decide), h2 91 (by decide), h2 93 (by decide), h2 60 (by decide), h2 62 (by decide)]
  · have : ¬ 97 ≤ c.toNat := by omega
    simp [letB, this]
theorem bit_go {c : UInt8} (h : bitB c = true) : stopB c = false := by
  simp only [bitB, Bool.or_eq_true, beq_iff_eq] at h
  rcases h with rfl | rfl <;> rfl
/-- A run by its bytes. -/
def GoRun (x : List UInt8) : Prop := x ≠ [] ∧ ((brB (x.headD 0) = true ∧ x.length = 1) ∨ (∀ c ∈ x, stopB c = false))
theorem GoRun.cut {x t : List UInt8} (h : GoRun x) (ht : Stops t) : Cut x t := ⟨h.1, h.2.imp id fun k => ⟨k, ht⟩⟩
/-- What Show tells is a run, and its mark is the one. -/
theorem show_run (k : Nat) (n : Int) (l : List UInt8) (h0 : -9223372036854775808 ≤ n) (h1 : n ≤ 9223372036854775807) (h : (lexShow k n l).2 = 0) :
    GoRun (lexShow k n l).1 ∧ lexRun (lexShow k n l).1 = ((k, n, l), 0) := by
  unfold lexShow at h ⊢
  by_cases hb : showRun k n l = [] ∨ (k ≠ 8 ∧ n ≠ 0) ∨ (k ≠ 7 ∧ k ≠ 9 ∧ l ≠ [])
  · rw [if_pos hb] at h; exact absurd h (by decide)
  rw [if_neg hb]
  have b1 : ¬ showRun k n l = [] := fun e => hb (.inl e)
  have b2 : k ≠ 8 → n = 0 := fun e => Decidable.byContradiction fun e2 => hb (.inr (.inl ⟨e, e2⟩))
  have b3 : k ≠ 7 → k ≠ 9 → l = [] := fun e f => Decidable.byContradiction fun e2 => hb (.inr (.inr ⟨e, f, e2⟩))
  clear hb h
  show GoRun (showRun k n l) ∧ lexRun (showRun k n l) = ((k, n, l), 0)
  unfold showRun at b1 ⊢
  by_cases k1 : 1 ≤ k ∧ k ≤ 6
  · rw [if_pos k1]
    obtain rfl := b2 (by omega)
    obtain rfl := b3 (by omega) (by omega)
    have : k = 1 ∨ k = 2 ∨ k = 3 ∨ k = 4 ∨ k = 5 ∨ k = 6 := by omega
    rcases this with rfl | rfl | rfl | rfl | rfl | rfl <;> exact ⟨⟨by decide, .inl (by decide)⟩, by decide⟩
  rw [if_neg k1] at b1 ⊢
  by_cases k7 : k = 7
  · subst k7
    rw [if_pos rfl] at b1 ⊢
    by_cases hl : lettersB l = true
    · rw [if_pos hl]
      obtain rfl := b2 (by omega)
      have hl' := hl
      simp only [lettersB, Bool.and_eq_true, Bool.not_eq_true', List.isEmpty_eq_false_iff, List.all_eq_true] at hl'
      obtain ⟨g1, g2⟩ := hl'
      refine ⟨⟨g2, .inr fun c hc => (let_go (g1 c hc)).1⟩, ?_⟩
      have hh : brB (l.headD 0) = false := by
        cases l with
        | nil => exact absurd rfl g2
        | cons b r => exact go_br (let_go (g1 b (by simp))).1
      rw [lexRun, if_neg (by rw [hh]; decide), if_pos hl]
    · rw [if_neg hl] at b1; exact absurd rfl b1
  rw [if_neg k7] at b1 ⊢
  by_cases k8 : k = 8
  · subst k8
    rw [if_pos rfl] at b1 ⊢
    obtain rfl := b3 (by omega) (by omega)
    have hf := num_form n h0 h1
    have hnf : numForm (Lib.itoa n) = true := by
      unfold lexNum at hf
      by_cases hq : numForm (Lib.itoa n) = true
      · exact hq
      · rw [if_neg hq] at hf; cases hf
    have hd : ∀ c ∈ Lib.itoa n, c = 45 ∨ digB c = true := by
      rcases (numForm_iff _).1 hnf with hc | ⟨d, hd, hc, _⟩
      · intro c hc2; exact .inr (List.all_eq_true.1 hc.1 c hc2)
      · rw [hd]; intro c hc2
        rcases List.mem_cons.1 hc2 with e | e
        · exact .inl e
        · exact .inr (List.all_eq_true.1 hc.1 c e)
    generalize Lib.itoa n = x at *
    have hg : ∀ c ∈ x, stopB c = false := fun c hc => by
      rcases hd c hc with e | e
      · subst e; rfl
      · exact (dig_go e).1
    cases x with
    | nil => exact absurd rfl b1
    | cons b r =>
      refine ⟨⟨by simp, .inr hg⟩, ?_⟩
      have e1 : brB b = false := go_br (hg b (by simp))
      have e2 : letB b = false := by
        rcases hd b (by simp) with e | e
        · subst e; rfl
        · exact (dig_go e).2
      have e3 : (b == 45 || digB b) = true := by
        rcases hd b (by simp) with e | e
        · subst e; rfl
        · rw [e, Bool.or_true]
      have e4 : lettersB (b :: r) = false := by unfold lettersB; rw [List.all_cons, e2]; rfl
      rw [lexRun, if_neg (by show ¬ brB b = true; rw [e1]; decide), if_neg (by rw [e4]; decide), if_pos (show ((b :: r).headD 0 == 45 || digB ((b :: r).headD 0)) = true from e3)]
      exact hf
  rw [if_neg k8] at b1 ⊢
  by_cases k9 : k = 9
  · subst k9
    rw [if_pos rfl] at b1 ⊢
    by_cases hl : isB l = true
    · rw [if_pos hl]
      obtain rfl := b2 (by omega)
      obtain ⟨g1, g2⟩ := (isB_iff l).1 hl
      refine ⟨⟨by simp, .inr fun c hc => ?_⟩, ?_⟩
      · rcases List.mem_cons.1 hc with rfl | e
        · rfl
        · exact bit_go (List.all_eq_true.1 g2 c e)
      · have e4 : lettersB (35 :: l) = false := by unfold lettersB; rw [List.all_cons]; rfl
        rw [lexRun, if_neg (by show ¬ brB 35 = true; decide), if_neg (by rw [e4]; decide), if_neg (by show ¬ ((35 : UInt8) == 45 || digB 35) = true; decide), if_pos (by rfl)]
        show lexRow l = _
        rw [lexRow, if_pos g2, if_pos g1]
    · rw [if_neg hl] at b1; exact absurd rfl b1
  · rw [if_neg k9] at b1; exact absurd rfl b1
end

/-! The laws of chapter 15 over the marks of a text, in plain Lean. No program in sight. -/
section
open Go

theorem lexRun_slen (l : List UInt8) : (lexRun l).1.2.2.length ≤ l.length := by
  unfold lexRun lexNum lexRow bad
  repeat' split
  all_goals first | exact Nat.zero_le _ | exact Nat.le_refl _ | (simp; done)
/-- Where a text's mark stands, and what its bytes are. -/
structure Stand (a : Nat) (r : List UInt8) (m : MarkT) : Prop where
  at1 : a ≤ m.2.1
  at2 : m.2.1 < m.2.2.1
  at3 : m.2.2.1 ≤ a + r.length
  kind : m.1 ≤ 9
  bytes : markShow (ofT m) = ((r.drop (m.2.1 - a)).take (m.2.2.1 - m.2.1), 0)
  n0 : -9223372036854775808 ≤ m.2.2.2.1
  n1 : m.2.2.2.1 ≤ 9223372036854775807
  slen : m.2.2.2.2.length ≤ r.length
theorem Stand.on {a b : Nat} {p r : List UInt8} {m : MarkT} (h : Stand b r m) (hb : b = a + p.length) : Stand a (p ++ r) m := by
  obtain ⟨h1, h2, h3, h4, h5, h6, h7, h8⟩ := h
  subst hb
  refine ⟨by omega, h2, by rw [List.length_append]; omega, h4, ?_, h6, h7, by rw [List.length_append]; omega⟩
  have e : (p ++ r).drop (m.2.1 - a) = r.drop (m.2.1 - (a + p.length)) := by
    rw [List.drop_append, List.drop_eq_nil_of_le (by omega), List.nil_append, show m.2.1 - a - p.length = m.2.1 - (a + p.length) by omega]
  rw [h5, e]
theorem run_stand (a : Nat) {x t : List UInt8} (hc : Cut x t) (h : (lexRun x).2 = 0) : Stand a (x ++ t) (runMark a x) := by
  obtain ⟨e, n0, n1⟩ := run_show hc h
  have hp := hc.pos
  refine ⟨Nat.le_refl _, by show a < a + _; omega, by show a + _ ≤ _; rw [List.length_append]; omega, lexRun_kind x, ?_, n0, n1, by have := lexRun_slen x; rw [List.length_append]; show (lexRun x).1.2.2.length ≤ _; omega⟩
  show lexShow (lexRun x).1.1 (lexRun x).1.2.1 (lexRun x).1.2.2 = _
  rw [e]
  show (x, 0) = (((x ++ t).drop (a - a)).take (a + x.length - a), 0)
  rw [Nat.sub_self, List.drop_zero, show a + x.length - a = x.length by omega, List.take_left]
theorem marks_stand (r : List UInt8) : ∀ a, ∀ m ∈ (marks a r).1, Stand a r m := by
  refine text_ind (fun r => ∀ a, ∀ m ∈ (marks a r).1, Stand a r m) ?_ ?_ r
  · intro bl hb a m hm
    rw [marks_blank bl a hb] at hm
    simp at hm
  · intro bl x t hb hc ih a m hm
    rw [marks_blanks bl a _ hb, marks_run _ hc] at hm
    by_cases h0 : (lexRun x).2 = 0
    · rw [if_pos h0] at hm
      unfold prep at hm
      split at hm
      · rcases List.mem_append.1 hm with hm | hm
        · obtain rfl := List.mem_singleton.1 hm
          exact (run_stand _ hc h0).on rfl
        · exact ((ih _ m hm).on (p := x) rfl).on rfl
      · simp at hm
    · rw [if_neg h0] at hm
      simp at hm
/-- What is left of a text behind its first mark. -/
theorem rest_mark (a : Nat) (r : List UInt8) (h0 : (fromRest a r).2.2 = 0) (hk : (fromRest a r).1.1 ≠ 10) :
    Stand a r (fromRest a r).1 ∧ (∀ c ∈ r.take ((fromRest a r).1.2.1 - a), blankB c = true) := by
  rcases Nat.lt_or_eq_of_le (skipN_le r) with hs | hs
  · obtain ⟨bl, x, t, rfl, hb, hc⟩ := split_text r hs
    rw [rest_blanks bl a _ hb, rest_run _ hc] at h0 hk ⊢
    unfold ofGot at h0 hk ⊢
    by_cases h1 : (lexRun x).2 = 0
    · rw [if_pos h1] at h0 hk ⊢
      refine ⟨(run_stand (a + bl.length) hc h1).on rfl, ?_⟩
      show ∀ c ∈ (bl ++ (x ++ t)).take (a + bl.length - a), _
      rw [show a + bl.length - a = bl.length by omega, List.take_left]
      exact List.all_eq_true.1 hb
    · rw [if_neg h1] at h0; exact absurd h0 h1
  · rw [fromRest_end a r hs] at hk
    exact absurd rfl hk
/-- Where there is no mark: blanks alone. -/
theorem rest_stop (a : Nat) (r : List UInt8) (h0 : (fromRest a r).2.2 = 0) (hk : (fromRest a r).1.1 = 10) : ∀ c ∈ r, blankB c = true := by
  rcases Nat.lt_or_eq_of_le (skipN_le r) with hs | hs
  · obtain ⟨bl, x, t, rfl, hb, hc⟩ := split_text r hs
    have := lexRun_kind x
    rw [rest_blanks bl a _ hb, rest_run _ hc] at h0 hk
    unfold ofGot at h0 hk
    by_cases h1 : (lexRun x).2 = 0
    · rw [if_pos h1] at hk
      have h2 : (lexRun x).1.1 = 10 := hk
      omega
    · rw [if_neg h1] at h0; exact absurd h0 h1
  · have e := takeWhile_take blankB r
    change r.takeWhile blankB = r.take (skipN r) at e
    rw [hs, List.take_length] at e
    have ha := takeWhile_all blankB r
    rw [e] at ha
    exact ha

/-- A text that is right: blanks alone; or its first mark, and the rest. -/
theorem marks_step (a : Nat) (r : List UInt8) (ms : List MarkT) (h : marks a r = (ms, 0, 0)) :
    (ms = [] ∧ ∀ c ∈ r, blankB c = true) ∨ (∃ m rest, ms = m :: rest ∧ Stand a r m ∧ (∀ c ∈ r.take (m.2.1 - a), blankB c = true) ∧ marks m.2.2.1 (r.drop (m.2.2.1 - a)) = (rest, 0, 0)) := by
  rw [marks_at] at h
  by_cases h1 : (fromRest a r).2.2 ≠ 0
  · rw [if_pos h1] at h
    exact absurd (congrArg (fun x => x.2.2) h) h1
  rw [if_neg h1] at h
  by_cases h2 : (fromRest a r).1.1 = 10
  · rw [if_pos h2] at h
    exact .inl ⟨(congrArg Prod.fst h).symm, rest_stop a r (by omega) h2⟩
  rw [if_neg h2] at h
  obtain ⟨s1, s2⟩ := rest_mark a r (by omega) h2
  refine .inr ⟨(fromRest a r).1, (marks (fromRest a r).1.2.2.1 (r.drop ((fromRest a r).1.2.2.1 - a))).1, ?_, s1, s2, ?_⟩
  · unfold prep at h
    split at h
    · exact (congrArg Prod.fst h).symm
    · rename_i h3; exact absurd (congrArg (fun x => x.2.2) h) h3
  · have h0 : (marks (fromRest a r).1.2.2.1 (r.drop ((fromRest a r).1.2.2.1 - a))).2.2 = 0 := by
      unfold prep at h
      split at h
      · assumption
      · exact congrArg (fun x => x.2.2) h
    have h4 := marks_ok h0
    generalize marks (fromRest a r).1.2.2.1 (r.drop ((fromRest a r).1.2.2.1 - a)) = x at *
    obtain ⟨x, y, z⟩ := x
    simp only at h0 h4
    subst h0 h4
    rfl

/-- Where something is wrong: within the text. -/
theorem marks_place (r : List UInt8) : ∀ a, (marks a r).2.1 ≤ a + r.length := by
  refine text_ind (fun r => ∀ a, (marks a r).2.1 ≤ a + r.length) ?_ ?_ r
  · intro bl hb a
    rw [marks_blank bl a hb]
    exact Nat.zero_le _
  · intro bl x t hb hc ih a
    rw [marks_blanks bl a _ hb, marks_run _ hc, List.length_append, List.length_append]
    have := ih (a + bl.length + x.length)
    by_cases h0 : (lexRun x).2 = 0
    · rw [if_pos h0]
      unfold prep
      split
      · exact Nat.zero_le _
      · show (marks _ t).2.1 ≤ _; omega
    · rw [if_neg h0]
      show a + bl.length ≤ _
      omega

/-! ### Blanks more -/
theorem more_blanks (r : List UInt8) : ∀ (a k j : Nat) (bl : List UInt8), (marks a r).2.2 = 0 → bl.all blankB = true →
    ((k = (marks a r).1.length ∧ j = r.length) ∨ (∃ m, (marks a r).1[k]? = some m ∧ a + j = m.2.1)) →
    marks a (r.take j ++ (bl ++ r.drop j)) = ((marks a r).1.take k ++ ((marks a r).1.drop k).map (shiftM bl.length), 0, 0) := by
  refine text_ind (fun r => ∀ (a k j : Nat) (bl : List UInt8), (marks a r).2.2 = 0 → bl.all blankB = true →
    ((k = (marks a r).1.length ∧ j = r.length) ∨ (∃ m, (marks a r).1[k]? = some m ∧ a + j = m.2.1)) →
    marks a (r.take j ++ (bl ++ r.drop j)) = ((marks a r).1.take k ++ ((marks a r).1.drop k).map (shiftM bl.length), 0, 0)) ?_ ?_ r
  · intro b0 hb0 a k j bl h hb hk
    rw [marks_blank b0 a hb0] at hk ⊢
    rcases hk with ⟨rfl, rfl⟩ | ⟨m, hm, _⟩
    · rw [List.take_length, List.drop_length, List.append_nil, marks_blank _ _ (by rw [List.all_append, hb0, hb]; rfl)]
      rfl
    · simp at hm
  · intro b0 x t hb0 hc ih a k j bl h hb hk
    have hr := marks_run (a + b0.length) hc
    rw [marks_blanks b0 a _ hb0] at h hk ⊢
    rw [hr] at h hk ⊢
    by_cases h0 : (lexRun x).2 = 0
    · rw [if_pos h0] at h hk ⊢
      have ht : (marks (a + b0.length + x.length) t).2.2 = 0 := by
        unfold prep at h
        split at h
        · assumption
        · exact h
      have hm1 := marks_stand t (a + b0.length + x.length)
      have ih2 := ih (a + b0.length + x.length)
      have hsh : ∀ d, marks (a + b0.length + x.length + d) t = shiftA d (marks (a + b0.length + x.length) t) := fun d => marks_shift d t (a + b0.length + x.length)
      have hp : prep [runMark (a + b0.length) x] (marks (a + b0.length + x.length) t) = (runMark (a + b0.length) x :: (marks (a + b0.length + x.length) t).1, 0, 0) := by
        unfold prep; rw [if_pos ht]; rfl
      rw [hp] at hk ⊢
      cases k with
      | zero =>
        have hj : j = b0.length := by
          rcases hk with ⟨h1, _⟩ | ⟨m, hm, hj⟩
          · simp at h1
          · simp at hm
            subst hm
            have : a + j = a + b0.length := hj
            omega
        subst hj
        rw [List.take_left, List.drop_left, ← List.append_assoc, marks_blanks (b0 ++ bl) a _ (by rw [List.all_append, hb0, hb]; rfl), marks_run _ hc, if_pos h0]
        have e1 : a + (b0 ++ bl).length + x.length = a + b0.length + x.length + bl.length := by rw [List.length_append]; omega
        have e2 : runMark (a + (b0 ++ bl).length) x = shiftM bl.length (runMark (a + b0.length) x) := by
          unfold runMark shiftM
          rw [e1]
          rw [show a + (b0 ++ bl).length = a + b0.length + bl.length by rw [List.length_append]; omega]
        rw [e1, hsh, e2]
        unfold shiftA prep
        rw [if_pos ht, if_pos rfl]
        rfl
      | succ k =>
        obtain ⟨j, rfl⟩ : ∃ j', j = b0.length + (x.length + j') := by
          rcases hk with ⟨_, h2⟩ | ⟨m, hm, hj⟩
          · exact ⟨t.length, by rw [h2, List.length_append, List.length_append]⟩
          · simp only [List.getElem?_cons_succ] at hm
            have := (hm1 m (List.mem_of_getElem? hm)).at1
            exact ⟨j - b0.length - x.length, by omega⟩
        have e1 : (b0 ++ (x ++ t)).take (b0.length + (x.length + j)) = b0 ++ (x ++ t.take j) := by
          rw [List.take_append, List.take_of_length_le (by omega), show b0.length + (x.length + j) - b0.length = x.length + j by omega, List.take_append, List.take_of_length_le (by omega), show x.length + j - x.length = j by omega]
        have e2 : (b0 ++ (x ++ t)).drop (b0.length + (x.length + j)) = t.drop j := by
          rw [List.drop_append, List.drop_eq_nil_of_le (by omega), show b0.length + (x.length + j) - b0.length = x.length + j by omega, List.drop_append, List.drop_eq_nil_of_le (by omega), show x.length + j - x.length = j by omega]
          rfl
        have hst : Stops t → Stops (t.take j ++ (bl ++ t.drop j)) := by
          intro hs
          cases j with
          | zero =>
            rw [List.take_zero, List.drop_zero, List.nil_append]
            exact Stops.blanks hb hs
          | succ j =>
            cases t with
            | nil => rw [List.take_nil, List.drop_nil, List.nil_append]; exact Stops.blanks hb Stops.nil
            | cons b u =>
              intro c v e
              rw [List.take_succ_cons, List.cons_append] at e
              injection e with e _
              subst e
              exact hs _ u rfl
        rw [e1, e2]
        have e3 : b0 ++ (x ++ t.take j) ++ (bl ++ t.drop j) = b0 ++ (x ++ (t.take j ++ (bl ++ t.drop j))) := by simp only [List.append_assoc]
        rw [e3, marks_blanks b0 a _ hb0, marks_run _ (hc.to hst), if_pos h0, ih2 k j bl ht hb ?_]
        · unfold prep; rw [if_pos rfl]; rfl
        · rcases hk with ⟨h1, h2⟩ | ⟨m, hm, hj⟩
          · refine .inl ⟨by simpa using h1, ?_⟩
            rw [List.length_append, List.length_append] at h2
            omega
          · refine .inr ⟨m, by simpa using hm, by omega⟩
    · rw [if_neg h0] at h; exact absurd h h0

/-! ### Join -/
/-- The runs of marks, each behind a blank. -/
def tailT (ms : List MarkZ) : List UInt8 := ms.flatMap fun m => 32 :: (markShow m).1
/-- The runs of marks, with a blank between two. -/
def joinT (ms : List MarkZ) : List UInt8 := (tailT ms).drop 1
theorem tailT_cons (m : MarkZ) (r : List MarkZ) : tailT (m :: r) = 32 :: ((markShow m).1 ++ tailT r) := rfl
theorem tailT_append (l r : List MarkZ) : tailT (l ++ r) = tailT l ++ tailT r := List.flatMap_append
theorem joinT_cons (m : MarkZ) (r : List MarkZ) : joinT (m :: r) = (markShow m).1 ++ tailT r := rfl
theorem joinT_snoc (l : List MarkZ) (m : MarkZ) : joinT (l ++ [m]) = (if 0 < l.length then joinT l ++ [32] else joinT l) ++ (markShow m).1 := by
  cases l with
  | nil => show joinT [m] = _; rw [joinT_cons]; show (markShow m).1 ++ [] = [] ++ _; rw [List.append_nil, List.nil_append]
  | cons x r =>
    rw [if_pos (by simp), List.cons_append, joinT_cons, joinT_cons, tailT_append]
    show (markShow x).1 ++ (tailT r ++ (32 :: ((markShow m).1 ++ []))) = _
    simp
theorem joinGo_ok : ∀ (ms : List MarkZ) (k : Nat) (acc : List UInt8), (∀ m ∈ ms, (markShow m).2 = 0) →
    joinGo k acc ms = if 65536 < (acc ++ (if 0 < k then tailT ms else joinT ms)).length then ([], 5) else (acc ++ (if 0 < k then tailT ms else joinT ms), 0)
  | [], k, acc, _ => by
    have e : (if 0 < k then tailT [] else joinT []) = ([] : List UInt8) := by split <;> rfl
    rw [e, List.append_nil, joinGo]
  | m :: r, k, acc, h => by
    rw [joinGo, if_neg (by simp [h m (by simp)]), joinGo_ok r (k + 1) _ (fun x hx => h x (by simp [hx])), if_pos (Nat.succ_pos k)]
    have e : (if 0 < k then acc ++ [32] else acc) ++ (markShow m).1 ++ tailT r = acc ++ (if 0 < k then tailT (m :: r) else joinT (m :: r)) := by
      by_cases hk : 0 < k
      · rw [if_pos hk, if_pos hk, tailT_cons]; simp
      · rw [if_neg hk, if_neg hk, joinT_cons, List.append_assoc]
    rw [e]
theorem joinGo_bad : ∀ (ms : List MarkZ) (k : Nat) (acc : List UInt8), (joinGo k acc ms).2 = 0 → ∀ m ∈ ms, (markShow m).2 = 0
  | [], _, _, _, m, hm => by simp at hm
  | x :: r, k, acc, h, m, hm => by
    rw [joinGo] at h
    by_cases hx : (markShow x).2 ≠ 0
    · rw [if_pos hx] at h; exact absurd h hx
    rw [if_neg hx] at h
    rcases List.mem_cons.1 hm with rfl | hm
    · omega
    · exact joinGo_bad r _ _ h m hm
theorem lexJoin_ok {ms : List MarkZ} {t : List UInt8} (h : lexJoin ms = (t, 0)) : (∀ m ∈ ms, (markShow m).2 = 0) ∧ t = joinT ms ∧ t.length ≤ 65536 := by
  have h1 := joinGo_bad ms 0 [] (by show (lexJoin ms).2 = 0; rw [h])
  have h2 := joinGo_ok ms 0 [] h1
  rw [if_neg (Nat.lt_irrefl 0), List.nil_append] at h2
  change lexJoin ms = _ at h2
  rw [h] at h2
  by_cases h3 : 65536 < (joinT ms).length
  · rw [if_pos h3] at h2
    have : (0 : Nat) = 5 := congrArg Prod.snd h2
    omega
  · rw [if_neg h3] at h2
    have e : t = joinT ms := congrArg Prod.fst h2
    exact ⟨h1, e, by rw [e]; omega⟩
theorem lexJoin_of {ms : List MarkZ} (h : ∀ m ∈ ms, (markShow m).2 = 0) (hl : (joinT ms).length ≤ 65536) : lexJoin ms = (joinT ms, 0) := by
  have h2 := joinGo_ok ms 0 [] h
  rw [if_neg (Nat.lt_irrefl 0), List.nil_append, if_neg (by omega)] at h2
  exact h2
/-- But for its places. -/
def stripZ (m : MarkZ) : MarkZ := (m.1, 0, 0, m.2.2.2.1, m.2.2.2.2)
def IntOk (m : MarkZ) : Prop := -9223372036854775808 ≤ m.2.2.2.1 ∧ m.2.2.2.1 ≤ 9223372036854775807
theorem tail_stops (ms : List MarkZ) : Stops (tailT ms) := by
  cases ms with
  | nil => exact Stops.nil
  | cons m r => intro b t e; rw [tailT_cons] at e; injection e with e _; subst e; rfl
/-- The marks of what is put together, from a place on. -/
theorem marks_join (ms : List MarkZ) : ∀ (a : Nat) (m : MarkZ), (∀ x ∈ m :: ms, (markShow x).2 = 0 ∧ IntOk x) →
    ∃ out, marks a ((markShow m).1 ++ tailT ms) = (out, 0, 0) ∧ out.map (fun x => stripZ (ofT x)) = (m :: ms).map stripZ := by
  induction ms with
  | nil =>
    intro a m h
    obtain ⟨h1, h2, h3⟩ := h m (by simp)
    obtain ⟨hg, hr⟩ := show_run m.1 m.2.2.2.1 m.2.2.2.2 h2 h3 h1
    change GoRun (markShow m).1 at hg
    change lexRun (markShow m).1 = _ at hr
    have hm := marks_run a (hg.cut (tail_stops []))
    rw [hr, if_pos rfl, show tailT [] = [] from rfl, marks_nil] at hm
    refine ⟨[runMark a (markShow m).1], hm, ?_⟩
    simp only [List.map_cons, List.map_nil, runMark, hr]
    rfl
  | cons y r ih =>
    intro a m h
    obtain ⟨h1, h2, h3⟩ := h m (by simp)
    obtain ⟨hg, hr⟩ := show_run m.1 m.2.2.2.1 m.2.2.2.2 h2 h3 h1
    change GoRun (markShow m).1 at hg
    change lexRun (markShow m).1 = _ at hr
    have hm := marks_run a (hg.cut (tail_stops (y :: r)))
    obtain ⟨out, ho1, ho2⟩ := ih (a + (markShow m).1.length + 1) y (fun x hx => h x (by simp at hx ⊢; exact .inr hx))
    have hb := marks_blanks [32] (a + (markShow m).1.length) ((markShow y).1 ++ tailT r) rfl
    rw [List.length_singleton, ho1] at hb
    change marks (a + (markShow m).1.length) (tailT (y :: r)) = _ at hb
    rw [hr, if_pos rfl, hb] at hm
    refine ⟨runMark a (markShow m).1 :: out, hm, ?_⟩
    rw [List.map_cons, ho2, List.map_cons]
    simp only [runMark, hr]
    rfl
/-- All of Join: the marks, but for their places. -/
theorem all_join {ms : List MarkZ} {t : List UInt8} (h : lexJoin ms = (t, 0)) (hi : ∀ m ∈ ms, IntOk m) :
    t.length ≤ 65536 ∧ ∃ out, lexAll t = (out, 0, 0) ∧ out.map (fun x => stripZ (ofT x)) = ms.map stripZ := by
  obtain ⟨h1, rfl, h3⟩ := lexJoin_ok h
  refine ⟨h3, ?_⟩
  rw [marks_lex _ h3]
  cases ms with
  | nil => exact ⟨[], marks_nil 0, rfl⟩
  | cons m r => exact marks_join r 0 m fun x hx => ⟨h1 x hx, hi x hx⟩

/-- How long the runs of a text's marks are, and how many there are. -/
theorem marks_size (r : List UInt8) : ∀ a, (tailT ((marks a r).1.map ofT)).length ≤ 2 * r.length ∧ (marks a r).1.length ≤ r.length := by
  refine text_ind (fun r => ∀ a, (tailT ((marks a r).1.map ofT)).length ≤ 2 * r.length ∧ (marks a r).1.length ≤ r.length) ?_ ?_ r
  · intro bl hb a
    rw [marks_blank bl a hb]
    exact ⟨Nat.zero_le _, Nat.zero_le _⟩
  · intro bl x t hb hc ih a
    rw [marks_blanks bl a _ hb, marks_run _ hc]
    have hp := hc.pos
    by_cases h0 : (lexRun x).2 = 0
    · rw [if_pos h0]
      unfold prep
      split
      · obtain ⟨i1, i2⟩ := ih (a + bl.length + x.length)
        have hs := (run_show hc h0).1
        have hsx : (markShow (ofT (runMark (a + bl.length) x))).1 = x := congrArg Prod.fst hs
        simp only [List.singleton_append, List.map_cons, tailT_cons, List.length_cons, List.length_append]
        rw [hsx]
        omega
      · exact ⟨Nat.zero_le _, Nat.zero_le _⟩
    · rw [if_neg h0]
      exact ⟨Nat.zero_le _, Nat.zero_le _⟩
/-- Join of All. -/
theorem join_all (r : List UInt8) (a : Nat) (hl : r.length ≤ 20000) : lexJoin ((marks a r).1.map ofT) = (joinT ((marks a r).1.map ofT), 0) := by
  refine lexJoin_of ?_ ?_
  · intro m hm
    obtain ⟨x, hx, rfl⟩ := List.mem_map.1 hm
    rw [(marks_stand r a x hx).bytes]
  · have := (marks_size r a).1
    unfold joinT
    rw [List.length_drop]
    omega
end
end Go.Proofs.YtbhekkkijomglaaGreatDoor
