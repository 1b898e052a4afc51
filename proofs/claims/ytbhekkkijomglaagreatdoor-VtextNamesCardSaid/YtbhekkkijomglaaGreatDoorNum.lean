/- Decimal numerals: what is read of one, and what is written, go back to each other. No program in sight. -/
import Derived.Test.YtbhekkkijomglaaGreatDoorBldZ
import Derived.Lib.ParseIntBCases
import Derived.Lib.ItoaMem
namespace Go.Proofs.YtbhekkkijomglaaGreatDoor
open Go

/-- The number that digits spell. -/
def decVal (acc : Nat) (l : List UInt8) : Nat := l.foldl (fun a c => a * 10 + (c.toNat - 48)) acc
theorem decVal_nil (a : Nat) : decVal a [] = a := by unfold decVal; rw [List.foldl_nil]
theorem decVal_cons (a : Nat) (c : UInt8) (r : List UInt8) : decVal a (c :: r) = decVal (a * 10 + (c.toNat - 48)) r := by unfold decVal; rw [List.foldl_cons]
theorem decVal_append (l m : List UInt8) : ∀ (a : Nat), decVal a (l ++ m) = decVal (decVal a l) m := by
  induction l with
  | nil => intro a; rw [List.nil_append, decVal_nil]
  | cons c r ih => intro a; rw [List.cons_append, decVal_cons, decVal_cons, ih]
theorem decVal_snoc (l : List UInt8) (c : UInt8) (a : Nat) : decVal a (l ++ [c]) = decVal a l * 10 + (c.toNat - 48) := by rw [decVal_append, decVal_cons, decVal_nil]
theorem decVal_ge (l : List UInt8) : ∀ (a : Nat), a ≤ decVal a l := by
  induction l with
  | nil => intro a; rw [decVal_nil]; exact Nat.le_refl a
  | cons c r ih =>
    intro a
    have := ih (a * 10 + (c.toNat - 48))
    rw [decVal_cons]
    omega
theorem dig_iff (c : UInt8) : digB c = true ↔ 48 ≤ c.toNat ∧ c.toNat ≤ 57 := by simp [digB]
theorem dig_of (u : Nat) (h : u < 10) : digB (UInt8.ofNat (48 + u)) = true ∧ (UInt8.ofNat (48 + u)).toNat = 48 + u := by
  have e : (UInt8.ofNat (48 + u)).toNat = 48 + u := by
    rw [UInt8.toNat_ofNat']
    omega
  exact ⟨by rw [dig_iff, e]; omega, e⟩
theorem byte_eq {a b : UInt8} (h : a.toNat = b.toNat) : a = b := UInt8.toNat_inj.1 h

theorem uintM_val (M : Nat) (hM : M ≤ 18446744073709551615) (l : List UInt8) : ∀ (acc : Nat), acc ≤ M → l.all digB = true →
    Lib.parseUintM M acc l = if decVal acc l ≤ M then .ok (decVal acc l) else .range := by
  induction l with
  | nil => intro acc ha _; rw [Lib.parseUintM, decVal_nil, if_pos ha]
  | cons c r ih =>
    intro acc ha h
    simp only [List.all_cons, Bool.and_eq_true] at h
    have hc := (dig_iff c).1 h.1
    have hg := decVal_ge r (acc * 10 + (c.toNat - 48))
    rw [Lib.parseUintM, if_pos hc, decVal_cons]
    by_cases h1 : 1844674407370955162 ≤ acc
    · rw [if_pos h1, if_neg (by omega)]
    rw [if_neg h1]
    by_cases h2 : M < acc * 10 + (c.toNat - 48)
    · rw [if_pos h2, if_neg (by omega)]
    rw [if_neg h2]
    exact ih _ (by omega) h.2

/-- Digits as they are written: a 0 alone, or no 0 ahead. -/
def canon (d : List UInt8) : Prop := d.all digB = true ∧ d ≠ [] ∧ (d = [48] ∨ d.head? ≠ some 48)

theorem dec_pos : ∀ (d : List UInt8), d.all digB = true → d ≠ [] → d.head? ≠ some 48 → 0 < decVal 0 d
  | [], _, h, _ => absurd rfl h
  | c :: r, h, _, h0 => by
    simp only [List.all_cons, Bool.and_eq_true] at h
    have hc := (dig_iff c).1 h.1
    have hne : ¬ c.toNat = 48 := fun e => h0 (by rw [show c = 48 from byte_eq e]; rfl)
    have := decVal_ge r (0 * 10 + (c.toNat - 48))
    rw [decVal_cons]
    omega
theorem head_app {l : List UInt8} (m : List UInt8) (h : l ≠ []) : (l ++ m).head? = l.head? := by
  cases l with
  | nil => exact absurd rfl h
  | cons c r => rfl
/-- What is written of the number that digits spell. -/
theorem dec_back (d : List UInt8) : canon d → Lib.decDigits (decVal 0 d) = d := by
  induction h : d.length using Nat.strongRecOn generalizing d with
  | _ n ih =>
    rintro ⟨hd, hne, hc⟩
    obtain ⟨i, c, rfl⟩ : ∃ i c, d = i ++ [c] := ⟨d.dropLast, d.getLast hne, (List.dropLast_concat_getLast hne).symm⟩
    simp only [List.all_append, List.all_cons, List.all_nil, Bool.and_true, Bool.and_eq_true] at hd
    have hcd := (dig_iff c).1 hd.2
    rw [decVal_snoc]
    by_cases hi0 : i = []
    · subst hi0
      rw [decVal_nil, Lib.decDigits, dif_pos (by omega)]
      simp only [List.nil_append, List.cons.injEq, and_true]
      apply byte_eq
      rw [(dig_of (0 * 10 + (c.toNat - 48)) (by omega)).2]
      omega
    · have hh : i.head? ≠ some 48 := by
        rcases hc with hc | hc
        · exfalso
          have := congrArg List.length hc
          simp at this
          exact hi0 this
        · rwa [head_app _ hi0] at hc
      have hp := dec_pos i hd.1 hi0 hh
      have hlen : i.length < n := by rw [← h]; simp
      have := ih i.length hlen i rfl ⟨hd.1, hi0, .inr hh⟩
      rw [Lib.decDigits, dif_neg (by omega), show (decVal 0 i * 10 + (c.toNat - 48)) / 10 = decVal 0 i by omega, this]
      congr 1
      simp only [List.cons.injEq, and_true]
      apply byte_eq
      rw [(dig_of _ (by omega)).2]
      omega
/-- What is written of a number is digits, and spells it. -/
theorem dec_form (u : Nat) : canon (Lib.decDigits u) ∧ decVal 0 (Lib.decDigits u) = u := by
  induction u using Nat.strongRecOn with
  | _ u ih =>
    by_cases h : u < 10
    · rw [Lib.decDigits, dif_pos h]
      obtain ⟨h1, h2⟩ := dig_of u h
      refine ⟨⟨by rw [List.all_cons, h1]; rfl, by simp, ?_⟩, by rw [decVal_cons, decVal_nil, h2]; omega⟩
      by_cases h0 : u = 0
      · subst h0; exact .inl rfl
      · refine .inr fun e => ?_
        have e' := congrArg UInt8.toNat (Option.some.inj e)
        rw [h2] at e'
        have : (48 : UInt8).toNat = 48 := rfl
        omega
    · rw [Lib.decDigits, dif_neg h]
      obtain ⟨⟨h1, h2, h3⟩, h4⟩ := ih (u / 10) (by omega)
      obtain ⟨g1, g2⟩ := dig_of (u % 10) (by omega)
      refine ⟨⟨by rw [List.all_append, h1, List.all_cons, g1]; rfl, by simp, .inr ?_⟩, by rw [decVal_snoc, h4, g2]; omega⟩
      rw [head_app _ h2]
      rcases h3 with h3 | h3
      · exfalso
        rw [h3] at h4
        have : decVal 0 [48] = 0 := by decide
        omega
      · exact h3

/-- A number as it is written: canonical digits, or those of a number over 0 behind a sign. -/
theorem numForm_iff (l : List UInt8) : numForm l = true ↔ canon l ∨ ∃ d, l = 45 :: d ∧ canon d ∧ d ≠ [48] := by
  cases l with
  | nil =>
    constructor
    · intro h; exact absurd h (by decide)
    · rintro (h | ⟨d, h, _⟩)
      · exact absurd rfl h.2.1
      · cases h
  | cons c r =>
    by_cases hc : c = 45
    · subst hc
      have e48 : ((45 :: r : List UInt8) == [48]) = false := beq_eq_false_iff_ne.2 (by intro h; injection h with h; exact absurd h (by decide))
      rw [numForm, digitsOf, trim_neg, e48, Bool.false_or]
      simp only [Bool.and_eq_true, Bool.not_eq_true', List.isEmpty_eq_false_iff, bne_iff_ne]
      constructor
      · rintro ⟨h1, h2, h3⟩
        exact .inr ⟨r, rfl, ⟨h1, h2, .inr h3⟩, fun e => by rw [e] at h3; exact h3 rfl⟩
      · rintro (h | ⟨d, h, ⟨h1, h2, h3⟩, h4⟩)
        · exact absurd h.1 (by simp [digB])
        · injection h with _ h
          subst h
          exact ⟨h1, h2, h3.resolve_left h4⟩
    · rw [numForm, digitsOf, trim_pos c r hc]
      simp only [Bool.and_eq_true, Bool.or_eq_true, beq_iff_eq, Bool.not_eq_true', List.isEmpty_eq_false_iff, bne_iff_ne]
      constructor
      · rintro ⟨h1, h2⟩
        refine .inl ⟨h1, by simp, ?_⟩
        rcases h2 with h2 | h2
        · exact .inl h2
        · exact .inr h2.2
      · rintro (⟨h1, h2, h3⟩ | ⟨d, h, _⟩)
        · refine ⟨h1, ?_⟩
          rcases h3 with h3 | h3
          · exact .inl h3
          · exact .inr ⟨h2, h3⟩
        · injection h with h _; exact absurd h hc

/-- What ParseInt tells of canonical digits; of those behind a sign. -/
theorem parse_plain (d : List UInt8) (h : canon d) : Lib.parseIntB 64 d = if decVal 0 d < 9223372036854775808 then .ok (decVal 0 d : Int) else .range := by
  obtain ⟨h1, h2, h3⟩ := h
  cases d with
  | nil => exact absurd rfl h2
  | cons c r =>
    have hc : 48 ≤ c.toNat ∧ c.toNat ≤ 57 := by
      simp only [List.all_cons, Bool.and_eq_true] at h1
      exact (dig_iff c).1 h1.1
    rw [Lib.parseIntB_plain 64 c r (by omega) (by omega), Lib.parseUintB, if_neg h2, uintM_val _ (by decide) _ _ (Nat.zero_le _) h1]
    have e1 : (2 ^ 64 - 1 : Nat) = 18446744073709551615 := rfl
    have e2 : (2 ^ (64 - 1) : Nat) = 9223372036854775808 := rfl
    rw [e1, e2]
    generalize decVal 0 (c :: r) = v
    by_cases hv : v < 9223372036854775808
    · rw [if_pos (by omega), if_pos hv]
      show (if 9223372036854775808 ≤ v then _ else _) = _
      rw [if_neg (by omega)]
    · rw [if_neg hv]
      by_cases hv2 : v ≤ 18446744073709551615
      · rw [if_pos hv2]
        show (if 9223372036854775808 ≤ v then _ else _) = _
        rw [if_pos (by omega)]
      · rw [if_neg hv2]; rfl
theorem parse_minus (d : List UInt8) (h : canon d) : Lib.parseIntB 64 (45 :: d) = if decVal 0 d ≤ 9223372036854775808 then .ok (-(decVal 0 d : Int)) else .range := by
  obtain ⟨h1, h2, h3⟩ := h
  rw [Lib.parseIntB_minus, Lib.parseUintB, if_neg h2, uintM_val _ (by decide) _ _ (Nat.zero_le _) h1]
  have e1 : (2 ^ 64 - 1 : Nat) = 18446744073709551615 := rfl
  have e2 : (2 ^ (64 - 1) : Nat) = 9223372036854775808 := rfl
  rw [e1, e2]
  generalize decVal 0 d = v
  by_cases hv : v ≤ 9223372036854775808
  · rw [if_pos (by omega), if_pos hv]
    show (if 9223372036854775808 < v then _ else _) = _
    rw [if_neg (by omega)]
  · rw [if_neg hv]
    by_cases hv2 : v ≤ 18446744073709551615
    · rw [if_pos hv2]
      show (if 9223372036854775808 < v then _ else _) = _
      rw [if_pos (by omega)]
    · rw [if_neg hv2]; rfl

/-- What is read of a numeral is written as it. -/
theorem num_back (x : List UInt8) (h : (lexNum x).2 = 0) : ∃ v, lexNum x = ((8, v, []), 0) ∧ Lib.itoa v = x ∧ -9223372036854775808 ≤ v ∧ v ≤ 9223372036854775807 := by
  unfold lexNum at h ⊢
  by_cases hf : numForm x = true
  · rw [if_pos hf] at h ⊢
    rcases (numForm_iff x).1 hf with hc | ⟨d, rfl, hc, h0⟩
    · rw [parse_plain x hc] at h ⊢
      by_cases hv : decVal 0 x < 9223372036854775808
      · rw [if_pos hv]
        exact ⟨_, rfl, by rw [Lib.itoa_nonneg]; exact dec_back x hc, by omega, by omega⟩
      · rw [if_neg hv] at h; exact absurd h (by decide)
    · rw [parse_minus d hc] at h ⊢
      by_cases hv : decVal 0 d ≤ 9223372036854775808
      · rw [if_pos hv]
        have hp : 0 < decVal 0 d := dec_pos d hc.1 hc.2.1 (hc.2.2.resolve_left h0)
        exact ⟨_, rfl, by rw [Lib.itoa_neg _ (by omega), dec_back d hc], by omega, by omega⟩
      · rw [if_neg hv] at h; exact absurd h (by decide)
  · rw [if_neg hf] at h; exact absurd h (by decide)
/-- What is written of a number is read as it. -/
theorem num_form (v : Int) (h0 : -9223372036854775808 ≤ v) (h1 : v ≤ 9223372036854775807) : lexNum (Lib.itoa v) = ((8, v, []), 0) := by
  by_cases hv : v < 0
  · obtain ⟨u, rfl⟩ : ∃ u : Nat, v = -(u : Int) := ⟨v.natAbs, by omega⟩
    obtain ⟨hc, hd⟩ := dec_form u
    rw [Lib.itoa_neg u (by omega)]
    have hf : numForm (45 :: Lib.decDigits u) = true := (numForm_iff _).2 (.inr ⟨_, rfl, hc, fun e => by
      rw [e] at hd
      have : decVal 0 [48] = 0 := by decide
      omega⟩)
    rw [lexNum, if_pos hf, parse_minus _ hc, hd, if_pos (by omega)]
  · obtain ⟨u, rfl⟩ : ∃ u : Nat, v = (u : Int) := ⟨v.toNat, by omega⟩
    obtain ⟨hc, hd⟩ := dec_form u
    rw [Lib.itoa_nonneg]
    have hf : numForm (Lib.decDigits u) = true := (numForm_iff _).2 (.inl hc)
    rw [lexNum, if_pos hf, parse_plain _ hc, hd, if_pos (by omega)]
end Go.Proofs.YtbhekkkijomglaaGreatDoor
