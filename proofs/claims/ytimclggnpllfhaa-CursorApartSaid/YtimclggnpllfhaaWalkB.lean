/- The walks of Take, the program's and the reference's. -/
import Derived.Test.YtimclggnpllfhaaWalkA
namespace Go.Proofs.Ytimclggnpllfhaa
open Go.RowKit

theorem step_bits (x : Nat) (b : UInt8) (hx : 2 * x < 18446744073709551616 - 1) (hb : b = 48 ∨ b = 49) :
    bits BinOp.or IntKind.u64 ((x : Int) * 2) (((b.toNat : Int) - 48) % 256) = ((2 * x + bv b : Nat) : Int) := by
  have e2 : (((b.toNat : Int) - 48) % 256) = (bv b : Int) := by rcases hb with rfl | rfl <;> rfl
  have hv := bv_le b
  rw [e2, u64_or _ _ (by omega) (by omega) (by omega) (by omega)]
  have e3 : ((x : Int) * 2).toNat = 2 ^ 1 * x := by omega
  have e4 : ((bv b : Int)).toNat = bv b := by omega
  rw [e3, e4, ← Nat.two_pow_add_eq_or_of_lt (by omega)]
theorem bv_one (b : UInt8) (h : ((b.toNat : Int) == 49) = true) : bv b = 1 := by
  have : b = 49 := UInt8.toNat_inj.1 (by have := eq_of_beq h; simpa using (by omega : b.toNat = 49))
  simp [bv, this]
theorem bv_zero (b : UInt8) (h : ((b.toNat : Int) == 49) = false) : bv b = 0 := by
  have : ¬ b = 49 := fun e => by subst e; simp at h
  simp [bv, this]
theorem num_seg_succ (s : ByteArray) (a k : Nat) (h : a + k < s.size) : num (seg s a (k + 1)) = 2 * num (seg s a k) + bv s[a + k] := by
  rw [seg_succ s a k h, num_snoc]

section
variable {w : World} {p : Nat} {s : ByteArray} {a : Nat} {ov : Bool}

theorem take_bad (h : Cur 42 w p s a ov) (n : Int) (hn : n < 0 ∨ 64 < n ∨ ov = true) :
    Calls Try.prog 12 #[.pointer (some ⟨p, 0, none⟩), .int .i64 n] w fun e w' => e = .returned (.tuple #[.int .u64 0, .bool false]) ∧ w' = w := by
  have c2 : w.cell? ⟨p, 2, none⟩ = some (.bool ov) := h.blk.cell 2
  by_cases h1 : n < 0
  · go_enter Try.func12, Try.ntmps12
    go_wp2_with fail
    go_ret2
    exact ⟨rfl, rfl⟩
  · by_cases h2 : 64 < n
    · go_enter Try.func12, Try.ntmps12
      go_wp2_with fail
      go_ret2
      exact ⟨rfl, rfl⟩
    · obtain rfl : ov = true := by rcases hn with hn | hn | hn <;> first | exact hn | omega
      go_enter Try.func12, Try.ntmps12
      go_wp2_with fail
      go_ret2
      exact ⟨rfl, rfl⟩

theorem take_more (h : Cur 42 w p s a false) (n : Int) (h0 : 0 ≤ n) (h1 : n ≤ 64) (hm : (s.size : Int) - a < n) :
    Calls Try.prog 12 #[.pointer (some ⟨p, 0, none⟩), .int .i64 n] w fun e w' => e = .returned (.tuple #[.int .u64 0, .bool false]) ∧ ∃ m, w' = (w.drewN m).setCell ⟨p, 2, none⟩ (.bool true) := by
  have c2 : w.cell? ⟨p, 2, none⟩ = some (.bool false) := h.blk.cell 2
  have f2 : w.frozen? ⟨p, 2, none⟩ = false := h.blk.frozen 2
  have hl := h.le
  have hs := h.small
  go_enter Try.func12, Try.ntmps12
  go_wp2_with (go_at_call 18; refine (left_any h).mono ?_; rintro e w' ⟨rfl, m, rfl⟩)
  go_ret2
  exact ⟨rfl, _, rfl⟩

theorem take_some (h : Cur 42 w p s a false) (n : Nat) (h1 : n ≤ 64) (hm : a + n ≤ s.size) :
    Calls Try.prog 12 #[.pointer (some ⟨p, 0, none⟩), .int .i64 n] w fun e w' => e = .returned (.tuple #[.int .u64 (num (seg s a n)), .bool true]) ∧ ∃ m, w' = (w.drewN m).setCell ⟨p, 1, none⟩ (.int .i64 (a + n)) := by
  have c0 : w.cell? ⟨p, 0, none⟩ = some (.string s) := h.blk.cell 0
  have c1 : w.cell? ⟨p, 1, none⟩ = some (.int .i64 a) := h.blk.cell 1
  have c2 : w.cell? ⟨p, 2, none⟩ = some (.bool false) := h.blk.cell 2
  have f1 : w.frozen? ⟨p, 1, none⟩ = false := h.blk.frozen 1
  have hl := h.le
  have hs := h.small
  go_enter Try.func12, Try.ntmps12
  go_wp2_with (go_at_call 18; refine (left_any h).mono ?_; rintro e w' ⟨rfl, m, rfl⟩)
  go_loopw [4, 27] (fun x i wr => ∃ k : Nat, k ≤ n ∧ i = .int .i64 k ∧ x = .int .u64 (num (seg s a k)) ∧ ∃ m, wr = w.drewN m) (fun _ i _ => n - (intOf i).toNat)
  case atStart => exact ⟨0, Nat.zero_le _, rfl, by rw [seg_zero]; rfl, _, rfl⟩
  case round =>
    obtain ⟨k, hk, rfl, rfl, m, rfl⟩ := hrel
    by_cases hlt : k < n
    · have hx := seg_num_lt s a k (by omega)
      have hx2 : (2 : Nat) ^ k ≤ 2 ^ 63 := Nat.pow_le_pow_right (by omega) (by omega)
      have hk : a + k < s.size := by omega
      have e1 : IntKind.i64.wrap ((a : Int) + (k : Int)) = (a : Int) + k := IntWalk.i64_in _ (by omega)
      have e2 : ((a : Int) + (k : Int)).toNat = a + k := by omega
      have e3 : (0 : Int) ≤ (a : Int) + k := by omega
      have e4 : ((a : Int) + (k : Int)) < (s.size : Int) := by omega
      go_wp2
      go_quiet (fail)
      go_wp2
      go_roundw
      case rel => exact ⟨k + 1, by omega, by go_num, by rw [step_bits _ _ (by omega) (bit_at s h.odd _ hk), ← num_seg_succ s a k hk], _, rfl⟩
      case measure => simp [intOf]; omega
    · obtain rfl : k = n := by omega
      go_wp2
      go_ret2
      exact ⟨rfl, _, rfl⟩

theorem take_any (h : Cur 42 w p s a ov) (n : Int) :
    Calls Try.prog 12 #[.pointer (some ⟨p, 0, none⟩), .int .i64 n] w fun e w' =>
      e = .returned (.tuple #[.int .u64 ((tk s a ov n).1 : Nat), .bool (tk s a ov n).2.1]) ∧ Cur 42 w' p s (tk s a ov n).2.2.1 (tk s a ov n).2.2.2 ∧ w.grownBy w' (some p) := by
  unfold tk
  by_cases hb : n < 0 ∨ 64 < n ∨ ov = true
  · rw [if_pos hb]
    exact (take_bad h n hb).mono fun e w' ⟨he, hw⟩ => by subst hw; exact ⟨he, h, only_refl _ _⟩
  · rw [if_neg hb]
    obtain rfl : ov = false := by cases ov <;> simp_all
    have h0 : 0 ≤ n := by omega
    have h1 : n ≤ 64 := by omega
    have hl := h.le
    by_cases hm : ((s.size - a : Nat) : Int) < n
    · rw [if_pos hm]
      refine (take_more h n h0 h1 (by omega)).mono fun e w' ⟨he, m, hw⟩ => ?_
      subst hw
      exact ⟨he, ⟨by simpa using (h.blk.drewN m).set_ 2 (.bool true), h.is, h.le⟩, only_setCell (only_drewN (only_refl _ _) m) (.inl rfl) _⟩
    · rw [if_neg hm]
      obtain ⟨k, rfl⟩ := Int.eq_ofNat_of_zero_le h0
      refine (take_some h k (by omega) (by omega)).mono fun e w' ⟨he, m, hw⟩ => ?_
      subst hw
      refine ⟨he, ⟨?_, h.is, by simp; omega⟩, only_setCell (only_drewN (only_refl _ _) m) (.inl rfl) _⟩
      simpa using (h.blk.drewN m).set_ 1 (.int .i64 (a + k))

theorem rtake_bad (h : Cur 48 w p s a ov) (n : Int) (hn : n < 0 ∨ 64 < n ∨ ov = true) :
    Calls Try.prog 13 #[.pointer (some ⟨p, 0, none⟩), .int .i64 n] w fun e w' => e = .returned (.tuple #[.int .u64 0, .bool false]) ∧ w' = w := by
  have c2 : w.cell? ⟨p, 2, none⟩ = some (.bool ov) := h.blk.cell 2
  by_cases h1 : n < 0
  · go_enter Try.func13, Try.ntmps13
    go_wp2_with fail
    go_ret2
    exact ⟨rfl, rfl⟩
  · by_cases h2 : 64 < n
    · go_enter Try.func13, Try.ntmps13
      go_wp2_with fail
      go_ret2
      exact ⟨rfl, rfl⟩
    · obtain rfl : ov = true := by rcases hn with hn | hn | hn <;> first | exact hn | omega
      go_enter Try.func13, Try.ntmps13
      go_wp2_with fail
      go_ret2
      exact ⟨rfl, rfl⟩

theorem rtake_more (h : Cur 48 w p s a false) (n : Int) (h0 : 0 ≤ n) (h1 : n ≤ 64) (hm : (s.size : Int) - a < n) :
    Calls Try.prog 13 #[.pointer (some ⟨p, 0, none⟩), .int .i64 n] w fun e w' => e = .returned (.tuple #[.int .u64 0, .bool false]) ∧ ∃ m, w' = (w.drewN m).setCell ⟨p, 2, none⟩ (.bool true) := by
  have c0 : w.cell? ⟨p, 0, none⟩ = some (.string s) := h.blk.cell 0
  have c1 : w.cell? ⟨p, 1, none⟩ = some (.int .i64 a) := h.blk.cell 1
  have c2 : w.cell? ⟨p, 2, none⟩ = some (.bool false) := h.blk.cell 2
  have f2 : w.frozen? ⟨p, 2, none⟩ = false := h.blk.frozen 2
  have hl := h.le
  have hs := h.small
  go_enter Try.func13, Try.ntmps13
  go_wp2
  go_quiet (fail)
  go_wp2
  go_ret2
  exact ⟨rfl, _, rfl⟩

theorem rtake_some (h : Cur 48 w p s a false) (n : Nat) (h1 : n ≤ 64) (hm : a + n ≤ s.size) :
    Calls Try.prog 13 #[.pointer (some ⟨p, 0, none⟩), .int .i64 n] w fun e w' => e = .returned (.tuple #[.int .u64 (num (seg s a n)), .bool true]) ∧ ∃ m, w' = (w.drewN m).setCell ⟨p, 1, none⟩ (.int .i64 (a + n)) := by
  have c0 : w.cell? ⟨p, 0, none⟩ = some (.string s) := h.blk.cell 0
  have c1 : w.cell? ⟨p, 1, none⟩ = some (.int .i64 a) := h.blk.cell 1
  have c2 : w.cell? ⟨p, 2, none⟩ = some (.bool false) := h.blk.cell 2
  have f1 : w.frozen? ⟨p, 1, none⟩ = false := h.blk.frozen 1
  have hl := h.le
  have hs := h.small
  go_enter Try.func13, Try.ntmps13
  go_wp2
  go_quiet (fail)
  go_wp2
  go_loopw [6, 7] (fun x i wr => ∃ k : Nat, k ≤ n ∧ i = .int .i64 k ∧ x = .int .u64 (num (seg s a k)) ∧ ∃ m, wr = w.drewN m) (fun _ i _ => n - (intOf i).toNat)
  case atStart => exact ⟨0, Nat.zero_le _, rfl, by rw [seg_zero]; rfl, _, rfl⟩
  case round =>
    obtain ⟨k, hk, rfl, rfl, m, rfl⟩ := hrel
    by_cases hlt : k < n
    · have hx := seg_num_lt s a k (by omega)
      have hx2 : (2 : Nat) ^ k ≤ 2 ^ 63 := Nat.pow_le_pow_right (by omega) (by omega)
      have hk : a + k < s.size := by omega
      have e1 : IntKind.i64.wrap ((a : Int) + (k : Int)) = (a : Int) + k := IntWalk.i64_in _ (by omega)
      have e2 : ((a : Int) + (k : Int)).toNat = a + k := by omega
      have e3 : (0 : Int) ≤ (a : Int) + k := by omega
      have e4 : ((a : Int) + (k : Int)) < (s.size : Int) := by omega
      have HB := Lib.hid (bit_at s h.odd _ hk)
      have HN := Lib.hid (num_seg_succ s a k hk)
      go_wp2
      go_quiet (fail)

      go_wp2
      · have hv : ((s[a + k].toNat : Int) == 49) = true := by assumption
        have hv1 := bv_one _ hv
        go_roundw
        case rel => exact ⟨k + 1, by omega, by go_num, by rw [HN.out, hv1]; rfl, _, rfl⟩
        case measure => simp [intOf]; omega
      · have hv : ((s[a + k].toNat : Int) == 49) = false := by assumption
        have hv1 := bv_zero _ hv
        go_roundw
        case rel => exact ⟨k + 1, by omega, by go_num, by rw [HN.out, hv1]; rfl, _, rfl⟩
        case measure => simp [intOf]; omega
    · obtain rfl : k = n := by omega
      go_wp2
      go_ret2
      exact ⟨rfl, _, rfl⟩

theorem rtake_any (h : Cur 48 w p s a ov) (n : Int) :
    Calls Try.prog 13 #[.pointer (some ⟨p, 0, none⟩), .int .i64 n] w fun e w' =>
      e = .returned (.tuple #[.int .u64 ((tk s a ov n).1 : Nat), .bool (tk s a ov n).2.1]) ∧ Cur 48 w' p s (tk s a ov n).2.2.1 (tk s a ov n).2.2.2 ∧ w.grownBy w' (some p) := by
  unfold tk
  by_cases hb : n < 0 ∨ 64 < n ∨ ov = true
  · rw [if_pos hb]
    exact (rtake_bad h n hb).mono fun e w' ⟨he, hw⟩ => by subst hw; exact ⟨he, h, only_refl _ _⟩
  · rw [if_neg hb]
    obtain rfl : ov = false := by cases ov <;> simp_all
    have h0 : 0 ≤ n := by omega
    have h1 : n ≤ 64 := by omega
    have hl := h.le
    by_cases hm : ((s.size - a : Nat) : Int) < n
    · rw [if_pos hm]
      refine (rtake_more h n h0 h1 (by omega)).mono fun e w' ⟨he, m, hw⟩ => ?_
      subst hw
      exact ⟨he, ⟨by simpa using (h.blk.drewN m).set_ 2 (.bool true), h.is, h.le⟩, only_setCell (only_drewN (only_refl _ _) m) (.inl rfl) _⟩
    · rw [if_neg hm]
      obtain ⟨k, rfl⟩ := Int.eq_ofNat_of_zero_le h0
      refine (rtake_some h k (by omega) (by omega)).mono fun e w' ⟨he, m, hw⟩ => ?_
      subst hw
      refine ⟨he, ⟨?_, h.is, by simp; omega⟩, only_setCell (only_drewN (only_refl _ _) m) (.inl rfl) _⟩
      simpa using (h.blk.drewN m).set_ 1 (.int .i64 (a + k))
end
end Go.Proofs.Ytimclggnpllfhaa
