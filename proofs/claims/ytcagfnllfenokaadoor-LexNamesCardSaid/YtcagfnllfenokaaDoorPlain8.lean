/- Plain facts on strings of bits, and the numbers that they are. No program in sight. -/
namespace Go.Proofs.YtcagfnllfenokaaDoor

def bitB (b : UInt8) : Bool := b == 48 || b == 49
def oddB (l : List UInt8) : Bool := !(l.all bitB)
def isB (l : List UInt8) : Bool := decide (l.length ≤ 1024) && !oddB l
def bv (b : UInt8) : Nat := if b == 49 then 1 else 0
def num (l : List UInt8) : Nat := l.foldl (fun x b => 2 * x + bv b) 0

theorem bv_le (b : UInt8) : bv b ≤ 1 := by unfold bv; split <;> omega
theorem num_snoc (l : List UInt8) (b : UInt8) : num (l ++ [b]) = 2 * num l + bv b := by simp [num]
theorem num_foldl (l : List UInt8) : ∀ x, l.foldl (fun x b => 2 * x + bv b) x = x * 2 ^ l.length + num l := by
  induction l with
  | nil => intro x; simp [num]
  | cons b l ih =>
    intro x
    have h0 := ih (bv b)
    simp only [num, List.foldl_cons, List.length_cons] at h0 ih ⊢
    rw [ih, ih (2 * 0 + bv b), Nat.pow_succ, Nat.add_mul, Nat.add_mul]
    have e : 2 * x * 2 ^ l.length = x * (2 ^ l.length * 2) := by rw [Nat.mul_comm (2 ^ l.length) 2, ← Nat.mul_assoc, Nat.mul_comm x 2]
    rw [e]; omega
theorem num_append (a b : List UInt8) : num (a ++ b) = num a * 2 ^ b.length + num b := by
  have h := num_foldl b (num a)
  simpa [num, List.foldl_append] using h
theorem num_lt (l : List UInt8) : num l < 2 ^ l.length := by
  induction l with
  | nil => simp [num]
  | cons b l ih =>
    have h := num_append [b] l
    have hb := bv_le b
    have e : num [b] = bv b := by simp [num]
    rw [show b :: l = [b] ++ l from rfl, h, e]
    have hp : 0 < 2 ^ l.length := Nat.two_pow_pos _
    have h2 : bv b * 2 ^ l.length ≤ 2 ^ l.length := by
      calc bv b * 2 ^ l.length ≤ 1 * 2 ^ l.length := Nat.mul_le_mul_right _ hb
        _ = _ := Nat.one_mul _
    simp only [List.length_append, List.length_singleton]
    rw [Nat.add_comm 1, Nat.pow_succ]
    omega

/-- The n bits of s behind at. -/
def seg (s : ByteArray) (at_ n : Nat) : List UInt8 := (s.data.toList.drop at_).take n
theorem seg_zero (s : ByteArray) (a : Nat) : seg s a 0 = [] := by simp [seg]
theorem seg_succ (s : ByteArray) (a k : Nat) (h : a + k < s.size) : seg s a (k + 1) = seg s a k ++ [s[a + k]] := by
  unfold seg
  have hl : a + k < s.data.toList.length := by simpa using h
  rw [List.take_succ_eq_append_getElem (by simp; simp at hl; omega)]
  simp; rfl
theorem seg_length (s : ByteArray) (a k : Nat) (h : a + k ≤ s.size) : (seg s a k).length = k := by
  unfold seg
  have : s.data.toList.length = s.size := by simp
  rw [List.length_take, List.length_drop, this]; omega
theorem seg_num_lt (s : ByteArray) (a k : Nat) (_hk : k ≤ 64) : num (seg s a k) < 2 ^ k := by
  refine Nat.lt_of_lt_of_le (num_lt _) (Nat.pow_le_pow_right (by omega) ?_)
  unfold seg; rw [List.length_take]; omega

/-- What a Take does: the number, was there one, where it stands, is it over. -/
def tk (s : ByteArray) (at_ : Nat) (ov : Bool) (n : Int) : Nat × Bool × Nat × Bool :=
  if n < 0 ∨ 64 < n ∨ ov = true then (0, false, at_, ov)
  else if ((s.size - at_ : Nat) : Int) < n then (0, false, at_, true)
  else (num (seg s at_ n.toNat), true, at_ + n.toNat, false)
theorem tk_at (s : ByteArray) (a : Nat) (ov : Bool) (n : Int) (h : a ≤ s.size) : (tk s a ov n).2.2.1 ≤ s.size := by
  unfold tk; split
  · exact h
  · split
    · exact h
    · simp; omega

theorem take_all_snoc (s : ByteArray) (k : Nat) (h : k < s.size) : (s.data.toList.take (k + 1)).all bitB = ((s.data.toList.take k).all bitB && bitB s[k]) := by
  have e : s.data.toList.take (k + 1) = s.data.toList.take k ++ [s[k]] := by
    rw [List.take_succ_eq_append_getElem (by simpa using h)]; rfl
  rw [e, List.all_append]; simp
theorem oddB_of_bad (s : ByteArray) (k : Nat) (h : k < s.size) (hb : bitB s[k] = false) : oddB s.data.toList = true := by
  unfold oddB
  simp only [Bool.not_eq_true']
  rw [List.all_eq_false]
  exact ⟨s[k], by have : s[k] ∈ s.data.toList := by simp [ByteArray.getElem_eq_getElem_data]
                  exact this, by simp [hb]⟩
theorem oddB_of_all (s : ByteArray) (h : (s.data.toList.take s.size).all bitB = true) : oddB s.data.toList = false := by
  unfold oddB
  rw [List.take_of_length_le (by simp)] at h
  simp [h]
theorem bit_at (s : ByteArray) (h : oddB s.data.toList = false) (k : Nat) (hk : k < s.size) : s[k] = 48 ∨ s[k] = 49 := by
  unfold oddB at h
  simp only [Bool.not_eq_false'] at h
  rw [List.all_eq_true] at h
  have := h s[k] (by simp [ByteArray.getElem_eq_getElem_data])
  simpa [bitB] using this
theorem bitB_48 (b : UInt8) (h : (b.toNat : Int) = 48) : bitB b = true := by
  have : b = 48 := UInt8.toNat_inj.1 (by simpa using (by omega : b.toNat = 48))
  simp [bitB, this]
theorem bitB_no (b : UInt8) (h : ((b.toNat : Int) != 48) = true ∧ ((b.toNat : Int) != 49) = true) : bitB b = false := by
  obtain ⟨h1, h2⟩ := h
  rw [bne_iff_ne] at h1 h2
  simp only [bitB, Bool.or_eq_false_iff, beq_eq_false_iff_ne]
  exact ⟨fun e => h1 (by rw [e]; rfl), fun e => h2 (by rw [e]; rfl)⟩
theorem bitB_or (b : UInt8) (h : ((b.toNat : Int) != 48) = false ∨ ((b.toNat : Int) != 49) = false) : bitB b = true := by
  rcases h with h | h <;> simp only [bne_eq_false_iff_eq] at h
  · exact bitB_48 b h
  · have : b = 49 := UInt8.toNat_inj.1 (by simpa using (by omega : b.toNat = 49))
    simp [bitB, this]
end Go.Proofs.YtcagfnllfenokaaDoor
