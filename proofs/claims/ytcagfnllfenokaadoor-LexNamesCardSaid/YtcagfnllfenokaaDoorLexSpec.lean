/- What the marks of a text are, in plain Lean over lists of bytes. No program in sight. -/
import Derived.Lib.ParseIntB
import Derived.Lib.Strings
import Derived.Lib.Bytealg
import Derived.Test.YtcagfnllfenokaaDoorPlain8
namespace Go.Proofs.YtcagfnllfenokaaDoor
open Go

/-- A list of bytes as a string of the model. -/
def bs (l : List UInt8) : ByteArray := ⟨l.toArray⟩
theorem bs_list (l : List UInt8) : (bs l).data.toList = l := by simp [bs]
theorem bs_of (s : ByteArray) : bs s.data.toList = s := by cases s; simp [bs]
theorem bs_size (l : List UInt8) : (bs l).size = l.length := by simp [bs, ByteArray.size]
theorem bs_extract (s : ByteArray) (a b : Nat) : s.extract a b = bs ((s.data.toList.drop a).take (b - a)) := by
  apply ByteArray.ext
  apply Array.ext'
  rw [ByteArray.data_extract, Array.toList_extract, List.extract_eq_take_drop, bs_list]
theorem bs_append (l m : List UInt8) : bs l ++ bs m = bs (l ++ m) := by
  apply ByteArray.ext
  apply Array.ext'
  rw [ByteArray.data_append, Array.toList_append, bs_list, bs_list, bs_list]
theorem bs_nil : (⟨#[]⟩ : ByteArray) = bs [] := rfl

def blankB (b : UInt8) : Bool := b == 32 || b == 10
/-- A bracket's kind; 0: it is none. -/
def brK (b : UInt8) : Nat := if b == 40 then 1 else if b == 41 then 2 else if b == 91 then 3 else if b == 93 then 4 else if b == 60 then 5 else if b == 62 then 6 else 0
def brB (b : UInt8) : Bool := decide (0 < brK b)
def letB (b : UInt8) : Bool := decide (97 ≤ b.toNat) && decide (b.toNat ≤ 122)
def digB (b : UInt8) : Bool := decide (48 ≤ b.toNat) && decide (b.toNat ≤ 57)

/-- Letters alone, and not none. -/
def lettersB (l : List UInt8) : Bool := l.all letB && !l.isEmpty
/-- The digits behind a sign. -/
def digitsOf (l : List UInt8) : List UInt8 := Lib.trimPrefix l [45]
def numForm (l : List UInt8) : Bool := (digitsOf l).all digB && (l == [48] || (!(digitsOf l).isEmpty && (digitsOf l).head? != some 48))
/-- kind, number, string; the error. -/
abbrev Got := (Nat × Int × List UInt8) × Nat
def bad (e : Nat) : Got := ((0, 0, []), e)
def lexNum (l : List UInt8) : Got :=
  if numForm l = true then (match Lib.parseIntB 64 l with | .ok v => ((8, v, []), 0) | _ => bad 5) else bad 3
def lexRow (l : List UInt8) : Got :=
  if l.all bitB = true then (if l.length ≤ 1024 then ((9, 0, l), 0) else bad 5) else bad 3
/-- The mark of a run, but for its places. -/
def lexRun (l : List UInt8) : Got :=
  if brB (l.headD 0) = true then ((brK (l.headD 0), 0, []), 0)
  else if lettersB l = true then ((7, 0, l), 0)
  else if (l.headD 0 == 45 || digB (l.headD 0)) = true then lexNum l
  else if (l.headD 0 == 35) = true then lexRow (l.drop 1)
  else bad 3

theorem isEmpty_bytes (s : ByteArray) : s.toList.isEmpty = s.data.toList.isEmpty := by rw [Lib.toList_data]
theorem isEmpty_size (s : ByteArray) : s.data.toList.isEmpty = decide (s.size = 0) := by
  have h : s.data.toList.length = s.size := by simp
  rw [Bool.eq_iff_iff, List.isEmpty_iff, decide_eq_true_eq, ← h]
  exact List.length_eq_zero_iff.symm
theorem index_br (c : UInt8) : Lib.indexByte [40, 41, 91, 93, 60, 62] c = (brK c : Int) - 1 := by
  unfold brK
  by_cases h1 : c = 40
  · subst h1; rfl
  by_cases h2 : c = 41
  · subst h2; rfl
  by_cases h3 : c = 91
  · subst h3; rfl
  by_cases h4 : c = 93
  · subst h4; rfl
  by_cases h5 : c = 60
  · subst h5; rfl
  by_cases h6 : c = 62
  · subst h6; rfl
  have e : ∀ a b : UInt8, ¬ b = a → (a == b) = false := fun a b h => beq_eq_false_iff_ne.2 (fun e => h e.symm)
  have e' : ∀ a b : UInt8, ¬ b = a → (b == a) = false := fun a b h => beq_eq_false_iff_ne.2 h
  simp [Lib.indexByte, e _ _ h1, e _ _ h2, e _ _ h3, e _ _ h4, e _ _ h5, e _ _ h6, h1, h2, h3, h4, h5, h6]
theorem brK_le (c : UInt8) : brK c ≤ 6 := by
  unfold brK
  repeat' split
  all_goals omega

theorem uintM_digits (M : Nat) : ∀ (l : List UInt8) (acc : Nat), l.all digB = true → (∃ u, Lib.parseUintM M acc l = .ok u) ∨ Lib.parseUintM M acc l = .range := by
  intro l
  induction l with
  | nil => intro acc _; exact .inl ⟨acc, rfl⟩
  | cons c r ih =>
    intro acc h
    simp only [List.all_cons, Bool.and_eq_true] at h
    have hc : 48 ≤ c.toNat ∧ c.toNat ≤ 57 := by
      have := h.1
      unfold digB at this
      simpa only [Bool.and_eq_true, decide_eq_true_eq] using this
    rw [Lib.parseUintM, if_pos hc]
    split
    · exact .inr rfl
    · split
      · exact .inr rfl
      · exact ih _ h.2
theorem trim_neg (r : List UInt8) : Lib.trimPrefix (45 :: r) [45] = r := by simp [Lib.trimPrefix, Lib.hasPrefix]
theorem trim_pos (c : UInt8) (r : List UInt8) (h : ¬ c = 45) : Lib.trimPrefix (c :: r) [45] = c :: r := by
  have h' : ¬ (45 : UInt8) = c := fun e => h e.symm
  simp [Lib.trimPrefix, Lib.hasPrefix, h']
theorem parse_form (l : List UInt8) (h : numForm l = true) : (∃ v, Lib.parseIntB 64 l = .ok v) ∨ Lib.parseIntB 64 l = .range := by
  simp only [numForm, Bool.and_eq_true, Bool.or_eq_true] at h
  obtain ⟨hd, hne⟩ := h
  have hnil : ¬ digitsOf l = [] := by
    rcases hne with h1 | ⟨h1, _⟩
    · have e : l = [48] := by simpa using h1
      subst e
      decide
    · intro e; rw [e] at h1; simp at h1
  cases l with
  | nil => exact absurd rfl hnil
  | cons c r =>
    have harg : (if c.toNat = 43 ∨ c.toNat = 45 then r else c :: r) = digitsOf (c :: r) := by
      by_cases h45 : c = 45
      · subst h45; rw [if_pos (.inr rfl), digitsOf, trim_neg]
      · rw [digitsOf, trim_pos c r h45] at hd ⊢
        have hc : digB c = true := by simp only [List.all_cons, Bool.and_eq_true] at hd; exact hd.1
        unfold digB at hc
        simp only [Bool.and_eq_true, decide_eq_true_eq] at hc
        rw [if_neg (by omega)]
    rcases uintM_digits (2 ^ 64 - 1) (digitsOf (c :: r)) 0 hd with ⟨u, hu⟩ | hu
    · simp only [Lib.parseIntB, harg, Lib.parseUintB, if_neg hnil, hu]
      split
      · exact .inr rfl
      · split
        · exact .inr rfl
        · exact .inl ⟨_, rfl⟩
    · simp only [Lib.parseIntB, harg, Lib.parseUintB, if_neg hnil, hu]
      exact .inr trivial
end Go.Proofs.YtcagfnllfenokaaDoor
