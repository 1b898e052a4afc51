/- Put together: Plain8, LexSpec, Bits. -/
import Derived.Test.YtbhekkkijomglaaGreatDoorProg
import Derived.Test.YtbhekkkijomglaaGreatDoorBaseZ
import Derived.Lib.ParseIntB
import Derived.Lib.Strings
import Derived.Lib.Bytealg
import Derived.WalkSpells
import Derived.WalkLawsBesides
namespace Go.Proofs.YtbhekkkijomglaaGreatDoor
/-! Plain facts on strings of bits, and the numbers that they are. No program in sight. -/
section
def bitB (b : UInt8) : Bool := b == 48 || b == 49
def oddB (l : List UInt8) : Bool := !(l.all bitB)
def isB (l : List UInt8) : Bool := decide (l.length ≤ 1024) && !oddB l
def bv (b : UInt8) : Nat := if b == 49 then 1 else 0
def num (l : List UInt8) : Nat := l.foldl (fun x b => 2 * x + bv b) 0

theorem bv_le (b : UInt8) : bv b ≤ 1 := by unfold bv; split <;> omega
theorem num_snoc (l : List UInt8) (b : UInt8) : num (l ++ [b]) = 2 * num l + bv b := by simp [num]
theorem num_foldl (l : List UInt8) : ∀ x, l.foldl (fun x b => 2 * x + bv b) x = x * 2 ^ l.length + num l := by
  induction l with
  | nil => intro x; simp [num]
  | cons b l ih =>
    intro x
    have h0 := ih (bv b)
    simp only [num, List.foldl_cons, List.length_cons] at h0 ih ⊢
    rw [ih, ih (2 * 0 + bv b), Nat.pow_succ, Nat.add_mul, Nat.add_mul]
    have e : 2 * x * 2 ^ l.length = x * (2 ^ l.length * 2) := by rw [Nat.mul_comm (2 ^ l.length) 2, ← Nat.mul_assoc, Nat.mul_comm x 2]
    rw [e]; omega
theorem num_append (a b : List UInt8) : num (a ++ b) = num a * 2 ^ b.length + num b := by
  have h := num_foldl b (num a)
  simpa [num, List.foldl_append] using h
theorem num_lt (l : List UInt8) : num l < 2 ^ l.length := by
  induction l with
  | nil => simp [num]
  | cons b l ih =>
    have h := num_append [b] l
    have hb := bv_le b
    have e : num [b] = bv b := by simp [num]
    rw [show b :: l = [b] ++ l from rfl, h, e]
    have hp : 0 < 2 ^ l.length := Nat.two_pow_pos _
    have h2 : bv b * 2 ^ l.length ≤ 2 ^ l.length := by
      calc bv b * 2 ^ l.length ≤ 1 * 2 ^ l.length := Nat.mul_le_mul_right _ hb
        _ = _ := Nat.one_mul _
    simp only [List.length_append, List.length_singleton]
    rw [Nat.add_comm 1, Nat.pow_succ]
    omega

/-- The n bits of s behind at. -/
def seg (s : ByteArray) (at_ n : Nat) : List UInt8 := (s.data.toList.drop at_).take n
theorem seg_zero (s : ByteArray) (a : Nat) : seg s a 0 = [] := by simp [seg]
theorem seg_succ (s : ByteArray) (a k : Nat) (h : a + k < s.size) : seg s a (k + 1) = seg s a k ++ [s[a + k]] := by
  unfold seg
  have hl : a + k < s.data.toList.length := by simpa using h
  rw [List.take_succ_eq_append_getElem (by simp; simp at hl; omega)]
  simp; rfl
theorem seg_length (s : ByteArray) (a k : Nat) (h : a + k ≤ s.size) : (seg s a k).length = k := by
  unfold seg
  have : s.data.toList.length = s.size := by simp
  rw [List.length_take, List.length_drop, this]; omega
theorem seg_num_lt (s : ByteArray) (a k : Nat) (_hk : k ≤ 64) : num (seg s a k) < 2 ^ k := by
  refine Nat.lt_of_lt_of_le (num_lt _) (Nat.pow_le_pow_right (by omega) ?_)
  unfold seg; rw [List.length_take]; omega

/-- What a Take does: the number, was there one, where it stands, is it over. -/
def tk (s : ByteArray) (at_ : Nat) (ov : Bool) (n : Int) : Nat × Bool × Nat × Bool :=
  if n < 0 ∨ 64 < n ∨ ov = true then (0, false, at_, ov)
  else if ((s.size - at_ : Nat) : Int) < n then (0, false, at_, true)
  else (num (seg s at_ n.toNat), true, at_ + n.toNat, false)
theorem tk_at (s : ByteArray) (a : Nat) (ov : Bool) (n : Int) (h : a ≤ s.size) : (tk s a ov n).2.2.1 ≤ s.size := by
  unfold tk; split
  · exact h
  · split
    · exact h
    · simp; omega

theorem take_all_snoc (s : ByteArray) (k : Nat) (h : k < s.size) : (s.data.toList.take (k + 1)).all bitB = ((s.data.toList.take k).all bitB && bitB s[k]) := by
  have e : s.data.toList.take (k + 1) = s.data.toList.take k ++ [s[k]] := by
    rw [List.take_succ_eq_append_getElem (by simpa using h)]; rfl
  rw [e, List.all_append]; simp
theorem oddB_of_bad (s : ByteArray) (k : Nat) (h : k < s.size) (hb : bitB s[k] = false) : oddB s.data.toList = true := by
  unfold oddB
  simp only [Bool.not_eq_true']
  rw [List.all_eq_false]
  exact ⟨s[k], by have : s[k] ∈ s.data.toList := by simp [ByteArray.getElem_eq_getElem_data]
                  exact this, by simp [hb]⟩
theorem oddB_of_all (s : ByteArray) (h : (s.data.toList.take s.size).all bitB = true) : oddB s.data.toList = false := by
  unfold oddB
  rw [List.take_of_length_le (by simp)] at h
  simp [h]
theorem bit_at (s : ByteArray) (h : oddB s.data.toList = false) (k : Nat) (hk : k < s.size) : s[k] = 48 ∨ s[k] = 49 := by
  unfold oddB at h
  simp only [Bool.not_eq_false'] at h
  rw [List.all_eq_true] at h
  have := h s[k] (by simp [ByteArray.getElem_eq_getElem_data])
  simpa [bitB] using this
theorem bitB_48 (b : UInt8) (h : (b.toNat : Int) = 48) : bitB b = true := by
  have : b = 48 := UInt8.toNat_inj.1 (by simpa using (by omega : b.toNat = 48))
  simp [bitB, this]
theorem bitB_no (b : UInt8) (h : ((b.toNat : Int) != 48) = true ∧ ((b.toNat : Int) != 49) = true) : bitB b = false := by
  obtain ⟨h1, h2⟩ := h
  rw [bne_iff_ne] at h1 h2
  simp only [bitB, Bool.or_eq_false_iff, beq_eq_false_iff_ne]
  exact ⟨fun e => h1 (by rw [e]; rfl), fun e => h2 (by rw [e]; rfl)⟩
theorem bitB_or (b : UInt8) (h : ((b.toNat : Int) != 48) = false ∨ ((b.toNat : Int) != 49) = false) : bitB b = true := by
  rcases h with h | h <;> simp only [bne_eq_false_iff_eq] at h
  · exact bitB_48 b h
  · have : b = 49 := UInt8.toNat_inj.1 (by simpa using (by omega : b.toNat = 49))
    simp [bitB, this]
end

/-! What the marks of a text are, in plain Lean over lists of bytes. No program in sight. -/
section
open Go

/-- A list of bytes as a string of the model. -/
def bs (l : List UInt8) : ByteArray := ⟨l.toArray⟩
theorem bs_list (l : List UInt8) : (bs l).data.toList = l := by simp [bs]
theorem bs_of (s : ByteArray) : bs s.data.toList = s := by cases s; simp [bs]
theorem bs_size (l : List UInt8) : (bs l).size = l.length := by simp [bs, ByteArray.size]
theorem bs_extract (s : ByteArray) (a b : Nat) : s.extract a b = bs ((s.data.toList.drop a).take (b - a)) := by
  apply ByteArray.ext
  apply Array.ext'
  rw [ByteArray.data_extract, Array.toList_extract, List.extract_eq_take_drop, bs_list]
theorem bs_append (l m : List UInt8) : bs l ++ bs m = bs (l ++ m) := by
  apply ByteArray.ext
  apply Array.ext'
  rw [ByteArray.data_append, Array.toList_append, bs_list, bs_list, bs_list]
theorem bs_nil : (⟨#[]⟩ : ByteArray) = bs [] := rfl

def blankB (b : UInt8) : Bool := b == 32 || b == 10
/-- A bracket's kind; 0: it is none. -/
def brK (b : UInt8) : Nat := if b == 40 then 1 else if b == 41 then 2 else if b == 91 then 3 else if b == 93 then 4 else if b == 60 then 5 else if b == 62 then 6 else 0
def brB (b : UInt8) : Bool := decide (0 < brK b)
def letB (b : UInt8) : Bool := decide (97 ≤ b.toNat) && decide (b.toNat ≤ 122)
def digB (b : UInt8) : Bool := decide (48 ≤ b.toNat) && decide (b.toNat ≤ 57)

/-- Letters alone, and not none. -/
def lettersB (l : List UInt8) : Bool := l.all letB && !l.isEmpty
/-- The digits behind a sign. -/
def digitsOf (l : List UInt8) : List UInt8 := Lib.trimPrefix l [45]
def numForm (l : List UInt8) : Bool := (digitsOf l).all digB && (l == [48] || (!(digitsOf l).isEmpty && (digitsOf l).head? != some 48))
/-- kind, number, string; the error. -/
abbrev Got := (Nat × Int × List UInt8) × Nat
def bad (e : Nat) : Got := ((0, 0, []), e)
def lexNum (l : List UInt8) : Got :=
  if numForm l = true then (match Lib.parseIntB 64 l with | .ok v => ((8, v, []), 0) | _ => bad 5) else bad 3
def lexRow (l : List UInt8) : Got :=
  if l.all bitB = true then (if l.length ≤ 1024 then ((9, 0, l), 0) else bad 5) else bad 3
/-- The mark of a run, but for its places. -/
def lexRun (l : List UInt8) : Got :=
  if brB (l.headD 0) = true then ((brK (l.headD 0), 0, []), 0)
  else if lettersB l = true then ((7, 0, l), 0)
  else if (l.headD 0 == 45 || digB (l.headD 0)) = true then lexNum l
  else if (l.headD 0 == 35) = true then lexRow (l.drop 1)
  else bad 3

theorem isEmpty_bytes (s : ByteArray) : s.toList.isEmpty = s.data.toList.isEmpty := by rw [Lib.toList_data]
theorem isEmpty_size (s : ByteArray) : s.data.toList.isEmpty = decide (s.size = 0) := by
  have h : s.data.toList.length = s.size := by simp
  rw [Bool.eq_iff_iff, List.isEmpty_iff, decide_eq_true_eq, ← h]
  exact List.length_eq_zero_iff.symm
theorem index_br (c : UInt8) : Lib.indexByte [40, 41, 91, 93, 60, 62] c = (brK c : Int) - 1 := by
  unfold brK
  by_cases h1 : c = 40
  · subst h1; rfl
  by_cases h2 : c = 41
  · subst h2; rfl
  by_cases h3 : c = 91
  · subst h3; rfl
  by_cases h4 : c = 93
  · subst h4; rfl
  by_cases h5 : c = 60
  · subst h5; rfl
  by_cases h6 : c = 62
  · subst h6; rfl
  have e : ∀ a b : UInt8, ¬ b = a → (a == b) = false := fun a b h => beq_eq_false_iff_ne.2 (fun e => h e.symm)
  have e' : ∀ a b : UInt8, ¬ b = a → (b == a) = false := fun a b h => beq_eq_false_iff_ne.2 h
  simp [Lib.indexByte, e _ _ h1, e _ _ h2, e _ _ h3, e _ _ h4, e _ _ h5, e _ _ h6, h1, h2, h3, h4, h5, h6]
theorem brK_le (c : UInt8) : brK c ≤ 6 := by
  unfold brK
  repeat' split
  all_goals omega

theorem uintM_digits (M : Nat) : ∀ (l : List UInt8) (acc : Nat), l.all digB = true → (∃ u, Lib.parseUintM M acc l = .ok u) ∨ Lib.parseUintM M acc l = .range := by
  intro l
  induction l with
  | nil => intro acc _; exact .inl ⟨acc, rfl⟩
  | cons c r ih =>
    intro acc h
    simp only [List.all_cons, Bool.and_eq_true] at h
    have hc : 48 ≤ c.toNat ∧ c.toNat ≤ 57 := by
      have := h.1
      unfold digB at this
      simpa only [Bool.and_eq_true, decide_eq_true_eq] using this
    rw [Lib.parseUintM, if_pos hc]
    split
    · exact .inr rfl
    · split
      · exact .inr rfl
      · exact ih _ h.2
theorem trim_neg (r : List UInt8) : Lib.trimPrefix (45 :: r) [45] = r := by simp [Lib.trimPrefix, Lib.hasPrefix]
theorem trim_pos (c : UInt8) (r : List UInt8) (h : ¬ c = 45) : Lib.trimPrefix (c :: r) [45] = c :: r := by
  have h' : ¬ (45 : UInt8) = c := fun e => h e.symm
  simp [Lib.trimPrefix, Lib.hasPrefix, h']
theorem parse_form (l : List UInt8) (h : numForm l = true) : (∃ v, Lib.parseIntB 64 l = .ok v) ∨ Lib.parseIntB 64 l = .range := by
  simp only [numForm, Bool.and_eq_true, Bool.or_eq_true] at h
  obtain ⟨hd, hne⟩ := h
  have hnil : ¬ digitsOf l = [] := by
    rcases hne with h1 | ⟨h1, _⟩
    · have e : l = [48] := by simpa using h1
      subst e
      decide
    · intro e; rw [e] at h1; simp at h1
  cases l with
  | nil => exact absurd rfl hnil
  | cons c r =>
    have harg : (if c.toNat = 43 ∨ c.toNat = 45 then r else c :: r) = digitsOf (c :: r) := by
      by_cases h45 : c = 45
      · subst h45; rw [if_pos (.inr rfl), digitsOf, trim_neg]
      · rw [digitsOf, trim_pos c r h45] at hd ⊢
        have hc : digB c = true := by simp only [List.all_cons, Bool.and_eq_true] at hd; exact hd.1
        unfold digB at hc
        simp only [Bool.and_eq_true, decide_eq_true_eq] at hc
        rw [if_neg (by omega)]
    rcases uintM_digits (2 ^ 64 - 1) (digitsOf (c :: r)) 0 hd with ⟨u, hu⟩ | hu
    · simp only [Lib.parseIntB, harg, Lib.parseUintB, if_neg hnil, hu]
      split
      · exact .inr rfl
      · split
        · exact .inr rfl
        · exact .inl ⟨_, rfl⟩
    · simp only [Lib.parseIntB, harg, Lib.parseUintB, if_neg hnil, hu]
      exact .inr trivial
end

/-! The walks of bits.odd, bits.Is. -/
section
open Go.RowKit

theorem odd_any (s : ByteArray) (w : World) (hs : s.size ≤ maxLen) :
    Calls Tryz.prog 131 #[.string s] w fun e w' => e = .returned (.bool (oddB s.data.toList)) ∧ w = w' := by
  unfold maxLen at hs
  go_enter Tryz.func131, Tryz.ntmps131
  go_wp2
  go_loop [6] (fun i => ∃ k : Nat, k ≤ s.size ∧ i = .int .i64 k ∧ (s.data.toList.take k).all bitB = true) (fun i => s.size - (intOf i).toNat)
  case atStart => exact ⟨0, Nat.zero_le _, rfl, rfl⟩
  case round =>
    obtain ⟨k, hk, rfl, hall⟩ := hrel
    have HA := Lib.hid hall; clear hall
    go_wp2
    · have hlt : k < s.size := by assumption
      have h48 : (s[k].toNat : Int) = 48 := by assumption
      go_round
      case rel => exact ⟨k + 1, by omega, by go_num, by rw [take_all_snoc s k hlt, HA.out, bitB_48 _ h48]; rfl⟩
      case measure => simp [intOf]; omega
    · have hlt : k < s.size := by assumption
      have hno : ((s[k].toNat : Int) != 48) = true ∧ ((s[k].toNat : Int) != 49) = true := by assumption
      go_ret
      exact ⟨ret_bool (oddB_of_bad s k hlt (bitB_no _ hno)).symm, rfl⟩
    · have hlt : k < s.size := by assumption
      have hor : ((s[k].toNat : Int) != 48) = false ∨ ((s[k].toNat : Int) != 49) = false := by assumption
      go_round
      case rel => exact ⟨k + 1, by omega, by go_num, by rw [take_all_snoc s k hlt, HA.out, bitB_or _ hor]; rfl⟩
      case measure => simp [intOf]; omega
    · have hge : ¬ k < s.size := by assumption
      obtain rfl : k = s.size := by omega
      go_ret
      exact ⟨ret_bool (oddB_of_all s HA.out).symm, rfl⟩

theorem is_any (s : ByteArray) (w : World) (hs : s.size ≤ maxLen) :
    Calls Tryz.prog 114 #[.string s] w fun e w' => e = .returned (.bool (isB s.data.toList)) ∧ w = w' := by
  have hs' := hs
  unfold maxLen at hs
  by_cases h : s.size ≤ 1024
  · go_enter Tryz.func114, Tryz.ntmps114
    go_wp2_with (go_at_call 131; refine (odd_any s _ hs').mono ?_; rintro e w' ⟨rfl, rfl⟩)
    go_ret
    exact ⟨by simp [isB, h], rfl⟩
  · go_enter Tryz.func114, Tryz.ntmps114
    go_wp2_with fail
    go_ret
    exact ⟨by simp [isB, h], rfl⟩
end
end Go.Proofs.YtbhekkkijomglaaGreatDoor
