/- Put together: LexSpec, LexN, LexA, LexS. -/
import Derived.Test.YtbhekkkijomglaaGreatDoorBaseZ
import Derived.Lib.ParseIntB
import Derived.Lib.Strings
import Derived.Lib.Bytealg
import Derived.Lib.IndexAny
import Derived.Lib.SlTrimSet
import Derived.Lib.ItoaNum
namespace Go.Proofs.YtbhekkkijomglaaGreatDoor
/-! What the marks of a text are, in plain Lean over lists of bytes. No program in sight. -/
section
open Go

/-- A list of bytes as a string of the model. -/
def bs (l : List UInt8) : ByteArray := ⟨l.toArray⟩
theorem bs_list (l : List UInt8) : (bs l).data.toList = l := by simp [bs]
theorem bs_of (s : ByteArray) : bs s.data.toList = s := by cases s; simp [bs]
theorem bs_size (l : List UInt8) : (bs l).size = l.length := by simp [bs, ByteArray.size]
theorem bs_extract (s : ByteArray) (a b : Nat) : s.extract a b = bs ((s.data.toList.drop a).take (b - a)) := by
  apply ByteArray.ext
  apply Array.ext'
  rw [ByteArray.data_extract, Array.toList_extract, List.extract_eq_take_drop, bs_list]
theorem bs_append (l m : List UInt8) : bs l ++ bs m = bs (l ++ m) := by
  apply ByteArray.ext
  apply Array.ext'
  rw [ByteArray.data_append, Array.toList_append, bs_list, bs_list, bs_list]
theorem bs_nil : (⟨#[]⟩ : ByteArray) = bs [] := rfl

def blankB (b : UInt8) : Bool := b == 32 || b == 10
/-- A bracket's kind; 0: it is none. -/
def brK (b : UInt8) : Nat := if b == 40 then 1 else if b == 41 then 2 else if b == 91 then 3 else if b == 93 then 4 else if b == 60 then 5 else if b == 62 then 6 else 0
def brB (b : UInt8) : Bool := decide (0 < brK b)
def letB (b : UInt8) : Bool := decide (97 ≤ b.toNat) && decide (b.toNat ≤ 122)
def digB (b : UInt8) : Bool := decide (48 ≤ b.toNat) && decide (b.toNat ≤ 57)

/-- Letters alone, and not none. -/
def lettersB (l : List UInt8) : Bool := l.all letB && !l.isEmpty
/-- The digits behind a sign. -/
def digitsOf (l : List UInt8) : List UInt8 := Lib.trimPrefix l [45]
def numForm (l : List UInt8) : Bool := (digitsOf l).all digB && (l == [48] || (!(digitsOf l).isEmpty && (digitsOf l).head? != some 48))
/-- kind, number, string; the error. -/
abbrev Got := (Nat × Int × List UInt8) × Nat
def bad (e : Nat) : Got := ((0, 0, []), e)
def lexNum (l : List UInt8) : Got :=
  if numForm l = true then (match Lib.parseIntB 64 l with | .ok v => ((8, v, []), 0) | _ => bad 5) else bad 3
def lexRow (l : List UInt8) : Got :=
  if l.all bitB = true then (if l.length ≤ 1024 then ((9, 0, l), 0) else bad 5) else bad 3
/-- The mark of a run, but for its places. -/
def lexRun (l : List UInt8) : Got :=
  if brB (l.headD 0) = true then ((brK (l.headD 0), 0, []), 0)
  else if lettersB l = true then ((7, 0, l), 0)
  else if (l.headD 0 == 45 || digB (l.headD 0)) = true then lexNum l
  else if (l.headD 0 == 35) = true then lexRow (l.drop 1)
  else bad 3

theorem isEmpty_bytes (s : ByteArray) : s.toList.isEmpty = s.data.toList.isEmpty := by rw [Lib.toList_data]
theorem isEmpty_size (s : ByteArray) : s.data.toList.isEmpty = decide (s.size = 0) := by
  have h : s.data.toList.length = s.size := by simp
  rw [Bool.eq_iff_iff, List.isEmpty_iff, decide_eq_true_eq, ← h]
  exact List.length_eq_zero_iff.symm
theorem index_br (c : UInt8) : Lib.indexByte [40, 41, 91, 93, 60, 62] c = (brK c : Int) - 1 := by
  unfold brK
  by_cases h1 : c = 40
  · subst h1; rfl
  by_cases h2 : c = 41
  · subst h2; rfl
  by_cases h3 : c = 91
  · subst h3; rfl
  by_cases h4 : c = 93
  · subst h4; rfl
  by_cases h5 : c = 60
  · subst h5; rfl
  by_cases h6 : c = 62
  · subst h6; rfl
  have e : ∀ a b : UInt8, ¬ b = a → (a == b) = false := fun a b h => beq_eq_false_iff_ne.2 (fun e => h e.symm)
  have e' : ∀ a b : UInt8, ¬ b = a → (b == a) = false := fun a b h => beq_eq_false_iff_ne.2 h
  simp [Lib.indexByte, e _ _ h1, e _ _ h2, e _ _ h3, e _ _ h4, e _ _ h5, e _ _ h6, h1, h2, h3, h4, h5, h6]
theorem brK_le (c : UInt8) : brK c ≤ 6 := by
  unfold brK
  repeat' split
  all_goals omega

theorem uintM_digits (M : Nat) : ∀ (l : List UInt8) (acc : Nat), l.all digB = true → (∃ u, Lib.parseUintM M acc l = .ok u) ∨ Lib.parseUintM M acc l = .range := by
  intro l
  induction l with
  | nil => intro acc _; exact .inl ⟨acc, rfl⟩
  | cons c r ih =>
    intro acc h
    simp only [List.all_cons, Bool.and_eq_true] at h
    have hc : 48 ≤ c.toNat ∧ c.toNat ≤ 57 := by
      have := h.1
      unfold digB at this
      simpa only [Bool.and_eq_true, decide_eq_true_eq] using this
    rw [Lib.parseUintM, if_pos hc]
    split
    · exact .inr rfl
    · split
      · exact .inr rfl
      · exact ih _ h.2
theorem trim_neg (r : List UInt8) : Lib.trimPrefix (45 :: r) [45] = r := by simp [Lib.trimPrefix, Lib.hasPrefix]
theorem trim_pos (c : UInt8) (r : List UInt8) (h : ¬ c = 45) : Lib.trimPrefix (c :: r) [45] = c :: r := by
  have h' : ¬ (45 : UInt8) = c := fun e => h e.symm
  simp [Lib.trimPrefix, Lib.hasPrefix, h']
theorem parse_form (l : List UInt8) (h : numForm l = true) : (∃ v, Lib.parseIntB 64 l = .ok v) ∨ Lib.parseIntB 64 l = .range := by
  simp only [numForm, Bool.and_eq_true, Bool.or_eq_true] at h
  obtain ⟨hd, hne⟩ := h
  have hnil : ¬ digitsOf l = [] := by
    rcases hne with h1 | ⟨h1, _⟩
    · have e : l = [48] := by simpa using h1
      subst e
      decide
    · intro e; rw [e] at h1; simp at h1
  cases l with
  | nil => exact absurd rfl hnil
  | cons c r =>
    have harg : (if c.toNat = 43 ∨ c.toNat = 45 then r else c :: r) = digitsOf (c :: r) := by
      by_cases h45 : c = 45
      · subst h45; rw [if_pos (.inr rfl), digitsOf, trim_neg]
      · rw [digitsOf, trim_pos c r h45] at hd ⊢
        have hc : digB c = true := by simp only [List.all_cons, Bool.and_eq_true] at hd; exact hd.1
        unfold digB at hc
        simp only [Bool.and_eq_true, decide_eq_true_eq] at hc
        rw [if_neg (by omega)]
    rcases uintM_digits (2 ^ 64 - 1) (digitsOf (c :: r)) 0 hd with ⟨u, hu⟩ | hu
    · simp only [Lib.parseIntB, harg, Lib.parseUintB, if_neg hnil, hu]
      split
      · exact .inr rfl
      · split
        · exact .inr rfl
        · exact .inl ⟨_, rfl⟩
    · simp only [Lib.parseIntB, harg, Lib.parseUintB, if_neg hnil, hu]
      exact .inr trivial
end

/-! Where the next mark of a text begins and ends, in plain Lean. No program in sight. -/
section
open Go

def stopB (b : UInt8) : Bool := blankB b || brB b
/-- How many blanks stand ahead. -/
def skipN (l : List UInt8) : Nat := (l.takeWhile blankB).length
/-- How long the run is with which a text begins. -/
def runLen : List UInt8 → Nat
  | [] => 0
  | b :: r => if stopB b = true then 1 else ((b :: r).takeWhile fun x => !stopB x).length

/-- kind, at, end, number, string; the place; the error. -/
abbrev NextR := (Nat × Nat × Nat × Int × List UInt8) × Nat × Nat
def noMark : Nat × Nat × Nat × Int × List UInt8 := (0, 0, 0, 0, [])
/-- What Next tells from place a on, where blanks are skipped: of the text's rest. -/
def ofGot (a m : Nat) (g : Got) : NextR := if g.2 = 0 then ((g.1.1, a, a + m, g.1.2.1, g.1.2.2), 0, 0) else (noMark, a, g.2)
def fromRun (a : Nat) (r : List UInt8) : NextR := ofGot a (runLen r) (lexRun (r.take (runLen r)))
def fromRest (a : Nat) (r : List UInt8) : NextR :=
  if r.dropWhile blankB = [] then ((10, a + skipN r, a + skipN r, 0, []), 0, 0) else fromRun (a + skipN r) (r.dropWhile blankB)
def lexNext (l : List UInt8) (at_ : Int) : NextR :=
  if at_ < 0 ∨ (l.length : Int) < at_ then (noMark, 0, 1) else fromRest at_.toNat (l.drop at_.toNat)

theorem takeWhile_le (f : UInt8 → Bool) (l : List UInt8) : (l.takeWhile f).length ≤ l.length := (List.takeWhile_sublist f).length_le
theorem runLen_le (l : List UInt8) : runLen l ≤ l.length := by
  cases l with
  | nil => exact Nat.le_refl _
  | cons b r =>
    unfold runLen
    by_cases h : stopB b = true
    · simp [h]
    · simp only [h, if_false, Bool.false_eq_true]; exact takeWhile_le _ _
theorem runLen_pos (b : UInt8) (r : List UInt8) : 0 < runLen (b :: r) := by
  unfold runLen
  by_cases h : stopB b = true
  · simp [h]
  · simp [h]
theorem skipN_le (l : List UInt8) : skipN l ≤ l.length := takeWhile_le _ _
theorem skip_drop (l : List UInt8) : l.dropWhile blankB = l.drop (skipN l) := by
  unfold skipN
  induction l with
  | nil => rfl
  | cons b r ih => by_cases h : blankB b = true <;> simp [h, ih]

theorem index_stop (f : UInt8 → Bool) (cs : List UInt8) (hf : ∀ b, cs.contains b = f b) (l : List UInt8) :
    Lib.indexAny l cs = if (l.takeWhile fun x => !f x).length = l.length then -1 else ((l.takeWhile fun x => !f x).length : Int) := by
  induction l with
  | nil => rfl
  | cons b r ih =>
    rw [Lib.indexAny, hf]
    by_cases h : f b = true
    · simp [h]
    · have h' : f b = false := by simpa using h
      rw [if_neg (by simp [h']), ih]
      have hle := takeWhile_le (fun x => !f x) r
      by_cases h2 : (r.takeWhile fun x => !f x).length = r.length
      · simp [h', h2]
      · have h3 : ((((r.takeWhile fun x => !f x).length : Nat) : Int) == -1) = false := beq_eq_false_iff_ne.2 (by omega)
        simp [h', h2, h3]

theorem stop_contains (b : UInt8) : ([40, 41, 91, 93, 60, 62, 32, 10] : List UInt8).contains b = stopB b := by
  unfold stopB blankB brB brK
  by_cases h1 : b = 40
  · subst h1; rfl
  by_cases h2 : b = 41
  · subst h2; rfl
  by_cases h3 : b = 91
  · subst h3; rfl
  by_cases h4 : b = 93
  · subst h4; rfl
  by_cases h5 : b = 60
  · subst h5; rfl
  by_cases h6 : b = 62
  · subst h6; rfl
  by_cases h7 : b = 32
  · subst h7; rfl
  by_cases h8 : b = 10
  · subst h8; rfl
  simp [h1, h2, h3, h4, h5, h6, h7, h8]

theorem blank_contains (b : UInt8) : ([32, 10] : List UInt8).contains b = blankB b := by
  unfold blankB
  by_cases h7 : b = 32
  · subst h7; rfl
  by_cases h8 : b = 10
  · subst h8; rfl
  simp [h7, h8]

/-- The run's length by what IndexAny tells. -/
theorem runLen_index (l : List UInt8) (h : l ≠ []) :
    let n := Lib.indexAny l [40, 41, 91, 93, 60, 62, 32, 10]
    (n < 0 → runLen l = l.length) ∧ (n = 0 → runLen l = 1) ∧ (0 < n → (runLen l : Int) = n) := by
  have e := index_stop stopB _ stop_contains l
  cases l with
  | nil => exact absurd rfl h
  | cons b r =>
    simp only [e]
    unfold runLen
    by_cases hb : stopB b = true
    · simp [hb]
    · simp only [hb, if_false, Bool.false_eq_true]
      split
      · rename_i h2
        exact ⟨fun _ => h2, fun h => by omega, fun h => by omega⟩
      · refine ⟨fun h => by omega, fun h => ?_, fun h => rfl⟩
        have hb' : stopB b = false := by simpa using hb
        simp [hb'] at h
        omega
theorem trimLeft_skip (l : List UInt8) : Lib.trimLeftS l [32, 10] = l.drop (skipN l) := by
  rw [← skip_drop]
  unfold Lib.trimLeftS
  congr 1
  funext b
  exact blank_contains b

theorem lexNext_out (l : List UInt8) (i : Int) (h : i < 0 ∨ (l.length : Int) < i) : lexNext l i = (noMark, 0, 1) := by rw [lexNext, if_pos h]
theorem lexNext_in (l : List UInt8) (a : Nat) (h : a ≤ l.length) : lexNext l a = fromRest a (l.drop a) := by
  rw [lexNext, if_neg (by omega), Int.toNat_natCast]
theorem fromRest_end (a : Nat) (r : List UInt8) (h : skipN r = r.length) : fromRest a r = ((10, a + r.length, a + r.length, 0, []), 0, 0) := by
  rw [fromRest, skip_drop, h, List.drop_length, if_pos rfl]
theorem fromRest_run (a : Nat) (r : List UInt8) (h : skipN r < r.length) : fromRest a r = fromRun (a + skipN r) (r.drop (skipN r)) := by
  rw [fromRest, skip_drop, if_neg]
  intro e
  have := congrArg List.length e
  simp at this
  omega
end

/-! All marks of a text, in plain Lean. No program in sight. -/
section
open Go

abbrev MarkT := Nat × Nat × Nat × Int × List UInt8
/-- All marks from a place on, where a text's rest stands; else the place and the error. -/
def allRest : Nat → Nat → List UInt8 → List MarkT × Nat × Nat
  | 0, _, _ => ([], 0, 0)
  | f + 1, a, r =>
    if (fromRest a r).2.2 ≠ 0 then ([], (fromRest a r).2.1, (fromRest a r).2.2)
    else if (fromRest a r).1.1 = 10 then ([], 0, 0)
    else if (allRest f (fromRest a r).1.2.2.1 (r.drop ((fromRest a r).1.2.2.1 - a))).2.2 = 0 then
      ((fromRest a r).1 :: (allRest f (fromRest a r).1.2.2.1 (r.drop ((fromRest a r).1.2.2.1 - a))).1, 0, 0)
    else ([], (allRest f (fromRest a r).1.2.2.1 (r.drop ((fromRest a r).1.2.2.1 - a))).2)
def lexAll (l : List UInt8) : List MarkT × Nat × Nat := if 65536 < l.length then ([], 0, 5) else allRest (l.length + 1) 0 l

theorem lexRun_kind (l : List UInt8) : (lexRun l).1.1 ≤ 9 := by
  unfold lexRun lexNum lexRow bad
  repeat' split
  all_goals first | exact Nat.le_trans (brK_le _) (by decide) | exact Nat.le_of_ble_eq_true rfl
/-- Where Next tells a mark that is no Stop: it ends farther on, and within the text. -/
theorem fromRest_ends (a : Nat) (r : List UInt8) (h0 : (fromRest a r).2.2 = 0) (hk : (fromRest a r).1.1 ≠ 10) :
    a < (fromRest a r).1.2.2.1 ∧ (fromRest a r).1.2.2.1 ≤ a + r.length := by
  rcases Nat.lt_or_eq_of_le (skipN_le r) with h | h
  · rw [fromRest_run a r h] at h0 hk ⊢
    have hl := runLen_le (r.drop (skipN r))
    have hp : 0 < runLen (r.drop (skipN r)) := by
      cases hd : r.drop (skipN r) with
      | nil => have := congrArg List.length hd; simp at this; omega
      | cons x t => exact runLen_pos x t
    rw [List.length_drop] at hl
    unfold fromRun ofGot at h0 ⊢
    split at h0
    · rename_i h1
      rw [if_pos h1]
      show a < a + skipN r + _ ∧ a + skipN r + _ ≤ _
      omega
    · rename_i h1
      exact absurd h0 h1
  · rw [fromRest_end a r h] at hk
    exact absurd rfl hk
theorem fromRest_stop (a : Nat) (r : List UInt8) (hk : (fromRest a r).1.1 = 10) : fromRest a r = ((10, a + r.length, a + r.length, 0, []), 0, 0) := by
  rcases Nat.lt_or_eq_of_le (skipN_le r) with h | h
  · rw [fromRest_run a r h] at hk
    have := lexRun_kind ((r.drop (skipN r)).take (runLen (r.drop (skipN r))))
    unfold fromRun ofGot at hk
    split at hk
    · have h2 : (lexRun ((r.drop (skipN r)).take (runLen (r.drop (skipN r))))).1.1 = 10 := hk
      omega
    · exact absurd (show (0 : Nat) = 10 from hk) (by decide)
  · exact fromRest_end a r h

/-- What stands ahead, put ahead. -/
def prep (ms : List MarkT) (x : List MarkT × Nat × Nat) : List MarkT × Nat × Nat := if x.2.2 = 0 then (ms ++ x.1, 0, 0) else ([], x.2)
theorem allRest_ok : ∀ (f a : Nat) (r : List UInt8), (allRest f a r).2.2 = 0 → (allRest f a r).2.1 = 0
  | 0, _, _, _ => rfl
  | f + 1, a, r, h => by
    unfold allRest at h ⊢
    by_cases h1 : (fromRest a r).2.2 ≠ 0
    · rw [if_pos h1] at h; exact absurd h h1
    rw [if_neg h1] at h ⊢
    by_cases h2 : (fromRest a r).1.1 = 10
    · rw [if_pos h2]
    rw [if_neg h2] at h ⊢
    by_cases h3 : (allRest f (fromRest a r).1.2.2.1 (r.drop ((fromRest a r).1.2.2.1 - a))).2.2 = 0
    · rw [if_pos h3]
    · rw [if_neg h3] at h; exact absurd h h3
theorem allRest_bad : ∀ (f a : Nat) (r : List UInt8), (allRest f a r).2.2 ≠ 0 → (allRest f a r).1 = []
  | 0, _, _, h => absurd rfl h
  | f + 1, a, r, h => by
    unfold allRest at h ⊢
    by_cases h1 : (fromRest a r).2.2 ≠ 0
    · rw [if_pos h1]
    rw [if_neg h1] at h ⊢
    by_cases h2 : (fromRest a r).1.1 = 10
    · rw [if_pos h2]
    rw [if_neg h2] at h ⊢
    by_cases h3 : (allRest f (fromRest a r).1.2.2.1 (r.drop ((fromRest a r).1.2.2.1 - a))).2.2 = 0
    · rw [if_pos h3] at h; exact absurd rfl h
    · rw [if_neg h3]
theorem prep_nil (f a : Nat) (r : List UInt8) : prep [] (allRest f a r) = allRest f a r := by
  unfold prep
  by_cases h : (allRest f a r).2.2 = 0
  · rw [if_pos h]
    have h2 := allRest_ok f a r h
    generalize allRest f a r = x at *
    obtain ⟨x, y, z⟩ := x
    simp at h h2
    subst h h2
    rfl
  · rw [if_neg h]
    have h2 := allRest_bad f a r h
    generalize allRest f a r = x at *
    obtain ⟨x, y, z⟩ := x
    simp at h2
    subst h2
    rfl
theorem prep_bad (ms : List MarkT) (f a : Nat) (r : List UInt8) (h : (fromRest a r).2.2 ≠ 0) : prep ms (allRest (f + 1) a r) = ([], (fromRest a r).2.1, (fromRest a r).2.2) := by
  have e : allRest (f + 1) a r = ([], (fromRest a r).2.1, (fromRest a r).2.2) := by rw [allRest, if_pos h]
  rw [e, prep, if_neg h]
theorem prep_stop (ms : List MarkT) (f a : Nat) (r : List UInt8) (h : (fromRest a r).2.2 = 0) (hk : (fromRest a r).1.1 = 10) : prep ms (allRest (f + 1) a r) = (ms, 0, 0) := by
  have e : allRest (f + 1) a r = ([], 0, 0) := by rw [allRest, if_neg (by simp [h]), if_pos hk]
  rw [e, prep, if_pos rfl, List.append_nil]
theorem prep_more (ms : List MarkT) (f a : Nat) (r : List UInt8) (h : (fromRest a r).2.2 = 0) (hk : (fromRest a r).1.1 ≠ 10) :
    prep ms (allRest (f + 1) a r) = prep (ms ++ [(fromRest a r).1]) (allRest f (fromRest a r).1.2.2.1 (r.drop ((fromRest a r).1.2.2.1 - a))) := by
  rw [allRest, if_neg (by simp [h]), if_neg hk]
  by_cases h3 : (allRest f (fromRest a r).1.2.2.1 (r.drop ((fromRest a r).1.2.2.1 - a))).2.2 = 0
  · rw [if_pos h3, prep, if_pos rfl, prep, if_pos h3, List.append_assoc]; rfl
  · rw [if_neg h3, prep, if_neg h3, prep, if_neg h3]

/-- Marks as a slice's cells. -/
def markCells (m : MarkT) : List Value := [.int .u8 m.1, .int .i64 m.2.1, .int .i64 m.2.2.1, .int .i64 m.2.2.2.1, .string (bs m.2.2.2.2)]
def cellsOf (ms : List MarkT) : List Value := ms.flatMap markCells
theorem cellsOf_snoc (ms : List MarkT) (m : MarkT) : cellsOf (ms ++ [m]) = cellsOf ms ++ markCells m := by simp [cellsOf]
theorem cellsOf_length (ms : List MarkT) : (cellsOf ms).length = ms.length * 5 := by
  induction ms with
  | nil => rfl
  | cons m r ih =>
    have : cellsOf (m :: r) = markCells m ++ cellsOf r := rfl
    rw [this, List.length_append, ih, List.length_cons]
    show 5 + _ = _
    omega
end

/-! A mark's run, in plain Lean. No program in sight. -/
section
open Go

def brList : List UInt8 := [40, 41, 91, 93, 60, 62]
def showRun (k : Nat) (n : Int) (l : List UInt8) : List UInt8 :=
  if 1 ≤ k ∧ k ≤ 6 then (brList.drop (k - 1)).take 1
  else if k = 7 then (if lettersB l = true then l else [])
  else if k = 8 then Lib.itoa n
  else if k = 9 then (if isB l = true then 35 :: l else [])
  else []
def lexShow (k : Nat) (n : Int) (l : List UInt8) : List UInt8 × Nat :=
  if showRun k n l = [] ∨ (k ≠ 8 ∧ n ≠ 0) ∨ (k ≠ 7 ∧ k ≠ 9 ∧ l ≠ []) then ([], 3) else (showRun k n l, 0)
end
end Go.Proofs.YtbhekkkijomglaaGreatDoor
