/- The walks of bits.Is, of the reference's Bits, of New, of what reads a cursor. -/
import Derived.Test.YtimclggnpllfhaaProg
import Derived.Test.YtimclggnpllfhaaPlain8
import Derived.Test.YtimclggnpllfhaaBase
import Derived.WalkSpells
import Derived.WalkLawsBesides
import Derived.Deep.QuietTactic
import Derived.BigQuiet
namespace Go.Proofs.Ytimclggnpllfhaa
open Go.RowKit

theorem odd_any (s : ByteArray) (w : World) (hs : s.size ≤ maxLen) :
    Calls Try.prog 26 #[.string s] w fun e w' => e = .returned (.bool (oddB s.data.toList)) ∧ w = w' := by
  unfold maxLen at hs
  go_enter Try.func26, Try.ntmps26
  go_wp2
  go_loop [6] (fun i => ∃ k : Nat, k ≤ s.size ∧ i = .int .i64 k ∧ (s.data.toList.take k).all bitB = true) (fun i => s.size - (intOf i).toNat)
  case atStart => exact ⟨0, Nat.zero_le _, rfl, rfl⟩
  case round =>
    obtain ⟨k, hk, rfl, hall⟩ := hrel
    have HA := Lib.hid hall; clear hall
    go_wp2
    · have hlt : k < s.size := by assumption
      have h48 : (s[k].toNat : Int) = 48 := by assumption
      go_round
      case rel => exact ⟨k + 1, by omega, by go_num, by rw [take_all_snoc s k hlt, HA.out, bitB_48 _ h48]; rfl⟩
      case measure => simp [intOf]; omega
    · have hlt : k < s.size := by assumption
      have hno : ((s[k].toNat : Int) != 48) = true ∧ ((s[k].toNat : Int) != 49) = true := by assumption
      go_ret
      exact ⟨ret_bool (oddB_of_bad s k hlt (bitB_no _ hno)).symm, rfl⟩
    · have hlt : k < s.size := by assumption
      have hor : ((s[k].toNat : Int) != 48) = false ∨ ((s[k].toNat : Int) != 49) = false := by assumption
      go_round
      case rel => exact ⟨k + 1, by omega, by go_num, by rw [take_all_snoc s k hlt, HA.out, bitB_or _ hor]; rfl⟩
      case measure => simp [intOf]; omega
    · have hge : ¬ k < s.size := by assumption
      obtain rfl : k = s.size := by omega
      go_ret
      exact ⟨ret_bool (oddB_of_all s HA.out).symm, rfl⟩

theorem is_any (s : ByteArray) (w : World) (hs : s.size ≤ maxLen) :
    Calls Try.prog 22 #[.string s] w fun e w' => e = .returned (.bool (isB s.data.toList)) ∧ w = w' := by
  have hs' := hs
  unfold maxLen at hs
  by_cases h : s.size ≤ 1024
  · go_enter Try.func22, Try.ntmps22
    go_wp2_with (go_at_call 26; refine (odd_any s _ hs').mono ?_; rintro e w' ⟨rfl, rfl⟩)
    go_ret
    exact ⟨by simp [isB, h], rfl⟩
  · go_enter Try.func22, Try.ntmps22
    go_wp2_with fail
    go_ret
    exact ⟨by simp [isB, h], rfl⟩

theorem bits_any (s : ByteArray) (w : World) (hs : s.size ≤ maxLen) :
    Calls Try.prog 23 #[.string s] w fun e w' => e = .returned (.bool (isB s.data.toList)) ∧ w = w' := by
  unfold maxLen at hs
  go_enter Try.func23, Try.ntmps23
  go_wp2
  go_loop [3] (fun i => ∃ k : Nat, k ≤ s.size ∧ i = .int .i64 k ∧ (s.data.toList.take k).all bitB = true) (fun i => s.size - (intOf i).toNat)
  case atStart => exact ⟨0, Nat.zero_le _, rfl, rfl⟩
  case round =>
    obtain ⟨k, hk, rfl, hall⟩ := hrel
    have HA := Lib.hid hall; clear hall
    go_wp2
    · have hlt : k < s.size := by assumption
      have h48 : (s[k].toNat : Int) = 48 := by assumption
      go_round
      case rel => exact ⟨k + 1, by omega, by go_num, by rw [take_all_snoc s k hlt, HA.out, bitB_48 _ h48]; rfl⟩
      case measure => simp [intOf]; omega
    · have hlt : k < s.size := by assumption
      have hno : ((s[k].toNat : Int) != 48) = true ∧ ((s[k].toNat : Int) != 49) = true := by assumption
      go_ret
      exact ⟨ret_bool (by rw [isB, oddB_of_bad s k hlt (bitB_no _ hno)]; simp), rfl⟩
    · have hlt : k < s.size := by assumption
      have hor : ((s[k].toNat : Int) != 48) = false ∨ ((s[k].toNat : Int) != 49) = false := by assumption
      go_round
      case rel => exact ⟨k + 1, by omega, by go_num, by rw [take_all_snoc s k hlt, HA.out, bitB_or _ hor]; rfl⟩
      case measure => simp [intOf]; omega
    · have hge : ¬ k < s.size := by assumption
      obtain rfl : k = s.size := by omega
      go_ret
      refine ⟨ret_bool ?_, rfl⟩
      rw [isB, oddB_of_all s HA.out]
      simp; omega

theorem new_yes (s : ByteArray) (w : World) (h : isB s.data.toList = true) :
    Calls Try.prog 10 #[.string s] w fun e w' => e = .returned (.tuple #[.pointer (some ⟨w.heap.size, 0, none⟩), .int .i64 0]) ∧ w' = w.alloc (.cells #[.string s, .int .i64 0, .bool false] 42) := by
  have hs : s.size ≤ maxLen := by
    have : s.data.toList.length ≤ 1024 := by simp only [isB, Bool.and_eq_true, decide_eq_true_eq] at h; exact h.1
    unfold maxLen; simp at this; omega
  have H := Lib.hid h; clear h
  go_enter Try.func10, Try.ntmps10
  go_wp2_with (go_at_call 22; refine (is_any s _ hs).mono ?_; rintro e w' ⟨rfl, rfl⟩; rw [H.out])
  go_ret2
  exact ⟨rfl, rfl⟩
theorem new_no (s : ByteArray) (w : World) (hs : s.size ≤ maxLen) (h : isB s.data.toList = false) :
    Calls Try.prog 10 #[.string s] w fun e w' => e = .returned (.tuple #[.pointer none, .int .i64 3]) ∧ w' = w := by
  have H := Lib.hid h; clear h
  go_enter Try.func10, Try.ntmps10
  go_wp2_with (go_at_call 22; refine (is_any s _ hs).mono ?_; rintro e w' ⟨rfl, rfl⟩; rw [H.out])
  go_ret2
  exact ⟨rfl, rfl⟩

theorem rnew_yes (s : ByteArray) (w : World) (h : isB s.data.toList = true) :
    Calls Try.prog 11 #[.string s] w fun e w' => e = .returned (.tuple #[.pointer (some ⟨w.heap.size, 0, none⟩), .int .i64 0]) ∧ w' = w.alloc (.cells #[.string s, .int .i64 0, .bool false] 48) := by
  have hs : s.size ≤ maxLen := by
    have : s.data.toList.length ≤ 1024 := by simp only [isB, Bool.and_eq_true, decide_eq_true_eq] at h; exact h.1
    unfold maxLen; simp at this; omega
  have H := Lib.hid h; clear h
  go_enter Try.func11, Try.ntmps11
  go_wp2_with (go_at_call 23; refine (bits_any s _ hs).mono ?_; rintro e w' ⟨rfl, rfl⟩; rw [H.out])
  go_ret2
  exact ⟨rfl, rfl⟩
theorem rnew_no (s : ByteArray) (w : World) (hs : s.size ≤ maxLen) (h : isB s.data.toList = false) :
    Calls Try.prog 11 #[.string s] w fun e w' => e = .returned (.tuple #[.pointer none, .int .i64 3]) ∧ w' = w := by
  have H := Lib.hid h; clear h
  go_enter Try.func11, Try.ntmps11
  go_wp2_with (go_at_call 23; refine (bits_any s _ hs).mono ?_; rintro e w' ⟨rfl, rfl⟩; rw [H.out])
  go_ret2
  exact ⟨rfl, rfl⟩

/-- A cursor in memory. -/
structure Cur (t : TypeId) (w : World) (p : Nat) (s : ByteArray) (a : Nat) (ov : Bool) : Prop where
  blk : Blk w p t #[.string s, .int .i64 a, .bool ov]
  is : isB s.data.toList = true
  le : a ≤ s.size
theorem Cur.small {t : TypeId} {w : World} {p : Nat} {s : ByteArray} {a : Nat} {ov : Bool} (h : Cur t w p s a ov) : s.size ≤ 1024 := by
  have h := h.is
  have : s.data.toList.length ≤ 1024 := by simp only [isB, Bool.and_eq_true, decide_eq_true_eq] at h; exact h.1
  simpa using this
theorem Cur.odd {t : TypeId} {w : World} {p : Nat} {s : ByteArray} {a : Nat} {ov : Bool} (h : Cur t w p s a ov) : oddB s.data.toList = false := by
  have h := h.is
  simp only [isB, Bool.and_eq_true, Bool.not_eq_true'] at h; exact h.2
theorem Cur.drewN {t : TypeId} {w : World} {p : Nat} {s : ByteArray} {a : Nat} {ov : Bool} (h : Cur t w p s a ov) (n : Nat) : Cur t (w.drewN n) p s a ov := ⟨h.blk.drewN n, h.is, h.le⟩
theorem Cur.grown {t : TypeId} {w w' : World} {p q : Nat} {s : ByteArray} {a : Nat} {ov : Bool} (h : Cur t w p s a ov) (hg : w.grownBy w' (some q)) (hne : p ≠ q) : Cur t w' p s a ov :=
  ⟨h.blk.grown hg (by simpa using hne), h.is, h.le⟩
theorem Cur.below {t : TypeId} {w w' : World} {p B : Nat} {s : ByteArray} {a : Nat} {ov : Bool} (h : Cur t w p s a ov) (hb : Below B w w') (hB : p < B) : Cur t w' p s a ov :=
  ⟨h.blk.below hb hB, h.is, h.le⟩
theorem Cur.new {t : TypeId} (w : World) (s : ByteArray) (h : isB s.data.toList = true) : Cur t (w.alloc (.cells #[.string s, .int .i64 0, .bool false] t)) w.heap.size s 0 false :=
  ⟨Blk.new _ _ _, h, Nat.zero_le _⟩
theorem Cur.lt {t : TypeId} {w : World} {p : Nat} {s : ByteArray} {a : Nat} {ov : Bool} (h : Cur t w p s a ov) : p < w.heap.size := h.blk.lt
theorem Cur.ne {t t' : TypeId} {w : World} {p p' : Nat} {s s' : ByteArray} {a a' : Nat} {ov ov' : Bool} (h : Cur t w p s a ov) (h' : Cur t' w p' s' a' ov') (hne : t ≠ t') : p ≠ p' := h.blk.ne_ h'.blk hne

section
variable {w : World} {p : Nat} {s : ByteArray} {a : Nat} {ov : Bool}
theorem at_any (h : Cur 42 w p s a ov) :
    Calls Try.prog 16 #[.pointer (some ⟨p, 0, none⟩)] w fun e w' => e = .returned (.int .i64 a) ∧ w' = w := by
  have c1 : w.cell? ⟨p, 1, none⟩ = some (.int .i64 a) := h.blk.cell 1
  go_enter Try.func16, Try.ntmps16
  go_wp2
  go_ret
  exact ⟨rfl, rfl⟩
theorem over_any (h : Cur 42 w p s a ov) :
    Calls Try.prog 15 #[.pointer (some ⟨p, 0, none⟩)] w fun e w' => e = .returned (.bool ov) ∧ w' = w := by
  have c1 : w.cell? ⟨p, 2, none⟩ = some (.bool ov) := h.blk.cell 2
  go_enter Try.func15, Try.ntmps15
  go_wp2
  go_ret
  exact ⟨rfl, rfl⟩
theorem rest_any (h : Cur 42 w p s a ov) :
    Calls Try.prog 17 #[.pointer (some ⟨p, 0, none⟩)] w fun e w' => e = .returned (.string (s.extract a s.size)) ∧ ∃ n, w' = w.drewN n := by
  have c0 : w.cell? ⟨p, 0, none⟩ = some (.string s) := h.blk.cell 0
  have c1 : w.cell? ⟨p, 1, none⟩ = some (.int .i64 a) := h.blk.cell 1
  have hl := h.le
  have hs := h.small
  go_enter Try.func17, Try.ntmps17
  go_wp2
  go_quiet (fail)
  go_wp2
  go_ret
  exact ⟨rfl, _, rfl⟩
theorem rleft_any (h : Cur 48 w p s a ov) :
    Calls Try.prog 24 #[.pointer (some ⟨p, 0, none⟩)] w fun e w' => e = .returned (.int .i64 (s.size - a)) ∧ ∃ n, w' = w.drewN n := by
  have c0 : w.cell? ⟨p, 0, none⟩ = some (.string s) := h.blk.cell 0
  have c1 : w.cell? ⟨p, 1, none⟩ = some (.int .i64 a) := h.blk.cell 1
  have hl := h.le
  have hs := h.small
  go_enter Try.func24, Try.ntmps24
  go_wp2
  go_quiet (fail)
  go_wp2
  go_ret
  exact ⟨rfl, _, rfl⟩
theorem rrest_any (h : Cur 48 w p s a ov) :
    Calls Try.prog 25 #[.pointer (some ⟨p, 0, none⟩)] w fun e w' => e = .returned (.string (s.extract a s.size)) ∧ ∃ n, w' = w.drewN n := by
  have c0 : w.cell? ⟨p, 0, none⟩ = some (.string s) := h.blk.cell 0
  have c1 : w.cell? ⟨p, 1, none⟩ = some (.int .i64 a) := h.blk.cell 1
  have hl := h.le
  have hs := h.small
  go_enter Try.func25, Try.ntmps25
  go_wp2
  go_quiet (fail)
  go_wp2
  go_ret
  exact ⟨rfl, _, rfl⟩
theorem left_any (h : Cur 42 w p s a ov) :
    Calls Try.prog 18 #[.pointer (some ⟨p, 0, none⟩)] w fun e w' => e = .returned (.int .i64 (s.size - a)) ∧ ∃ n, w' = w.drewN n := by
  have hl := h.le
  have hs := h.small
  go_enter Try.func18, Try.ntmps18
  go_wp2_with (go_at_call 17; refine (rest_any h).mono ?_; rintro e w' ⟨rfl, n, rfl⟩)
  go_ret
  exact ⟨ret_int (by omega), _, rfl⟩
theorem copy_any (h : Cur 42 w p s a ov) :
    Calls Try.prog 21 #[.pointer (some ⟨p, 0, none⟩)] w fun e w' => e = .returned (.pointer (some ⟨w.heap.size, 0, none⟩)) ∧ w' = w.alloc (.cells #[.string s, .int .i64 a, .bool ov] 42) := by
  have c0 : w.cell? ⟨p, 0, none⟩ = some (.string s) := h.blk.cell 0
  have c1 : w.cell? ⟨p, 1, none⟩ = some (.int .i64 a) := h.blk.cell 1
  have c2 : w.cell? ⟨p, 2, none⟩ = some (.bool ov) := h.blk.cell 2
  go_enter Try.func21, Try.ntmps21
  go_wp2
  go_ret
  exact ⟨rfl, rfl⟩
end
end Go.Proofs.Ytimclggnpllfhaa
