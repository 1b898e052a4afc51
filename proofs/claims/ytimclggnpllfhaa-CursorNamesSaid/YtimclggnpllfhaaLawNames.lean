/- The walk of the statement CursorNames. -/
import Derived.Test.YtimclggnpllfhaaOnes
namespace Go.Proofs.Ytimclggnpllfhaa
open Go.RowKit

theorem take_nil (w : World) (n : Int) : Calls Try.prog 12 #[.pointer none, .int .i64 n] w fun e w' => e = .returned (.tuple #[.int .u64 0, .bool false]) ∧ w' = w := by
  go_enter Try.func12, Try.ntmps12
  go_wp2_with fail
  go_ret2
  exact ⟨rfl, rfl⟩
theorem takes_nil (w : World) (n : Int) : Calls Try.prog 20 #[.pointer none, .int .i64 n, .int .u64 0, .bool false] w fun e w' => e = .returned (.bool true) ∧ w' = w := by
  go_enter Try.func20, Try.ntmps20
  go_wp2_with (go_at_call 12; refine (take_nil _ n).mono ?_; rintro e w' ⟨rfl, rfl⟩)
  go_ret
  exact ⟨rfl, rfl⟩
theorem at_nil (w : World) : Calls Try.prog 16 #[.pointer none] w fun e w' => e = .returned (.int .i64 0) ∧ w' = w := by
  go_enter Try.func16, Try.ntmps16
  go_wp2
  go_ret
  exact ⟨rfl, rfl⟩
theorem rest_nil (w : World) : Calls Try.prog 17 #[.pointer none] w fun e w' => e = .returned (.string ⟨#[]⟩) ∧ w' = w := by
  go_enter Try.func17, Try.ntmps17
  go_wp2
  go_ret
  exact ⟨rfl, rfl⟩
theorem left_nil (w : World) : Calls Try.prog 18 #[.pointer none] w fun e w' => e = .returned (.int .i64 0) ∧ w' = w := by
  go_enter Try.func18, Try.ntmps18
  go_wp2_with (go_at_call 17; refine (rest_nil _).mono ?_; rintro e w' ⟨rfl, rfl⟩)
  go_ret
  exact ⟨rfl, rfl⟩
theorem over_nil (w : World) : Calls Try.prog 15 #[.pointer none] w fun e w' => e = .returned (.bool false) ∧ w' = w := by
  go_enter Try.func15, Try.ntmps15
  go_wp2
  go_ret
  exact ⟨rfl, rfl⟩
theorem copy_nil (w : World) : Calls Try.prog 21 #[.pointer none] w fun e w' => e = .returned (.pointer none) ∧ w' = w := by
  go_enter Try.func21, Try.ntmps21
  go_wp2
  go_ret
  exact ⟨rfl, rfl⟩

theorem isB_ones (n : Nat) : isB (onesB n).data.toList = decide (n ≤ 1024) := by
  rw [onesB_list]
  have h : oddB (List.replicate n 49) = false := by
    unfold oddB
    simp only [Bool.not_eq_false', List.all_eq_true]
    intro x hx
    rw [List.eq_of_mem_replicate hx]
    rfl
  unfold isB
  rw [h]
  simp
theorem num_ones (k : Nat) : num (List.replicate k 49) + 1 = 2 ^ k := by
  induction k with
  | zero => rfl
  | succ k ih =>
    rw [List.replicate_succ', num_snoc, Nat.pow_succ, ← ih]
    have : bv 49 = 1 := rfl
    omega
theorem seg_ones (n a k : Nat) (h : a + k ≤ n) : seg (onesB n) a k = List.replicate k 49 := by
  unfold seg
  rw [onesB_list, List.drop_replicate, List.take_replicate, show min k (n - a) = k by omega]
theorem tk_ones (i : Nat) (h : i < 16) : tk (onesB 1024) (64 * i) false 64 = (18446744073709551615, true, 64 * (i + 1), false) := by
  unfold tk
  rw [if_neg (by simp), onesB_size, if_neg (by omega), seg_ones _ _ _ (by simp; omega)]
  have := num_ones 64
  simp only [show ((64 : Int)).toNat = 64 from rfl]
  rw [show num (List.replicate 64 49) = 18446744073709551615 by omega, Nat.mul_add]
theorem tk_none (s : ByteArray) (a : Nat) (ov : Bool) (n : Int) (h : n < 0 ∨ 64 < n ∨ ov = true) : tk s a ov n = (0, false, a, ov) := by
  unfold tk; rw [if_pos h]

set_option maxRecDepth 100000 in
set_option maxHeartbeats 1000000 in
theorem names_walk (w : World) : Calls Try.prog 6 #[] w fun e w' => e = .returned (.bool true) ∧ Below w.heap.size w w' := by
  obtain ⟨B, hB⟩ : ∃ B, B = w.heap.size := ⟨_, rfl⟩
  have o0 : Old B w w := hB ▸ Old.start w
  have HB := Lib.hid hB; clear hB
  go_enter Try.func6, Try.ntmps6
  go_wp2_with fail
  refine (awake_any _).mono ?_
  rintro e w1 ⟨rfl, b1⟩
  have o1 := o0.step b1
  clear b1 o0
  go_wp2_with fail
  refine (ones_any 1024 (by omega) _).mono ?_
  rintro e w2 ⟨rfl, b2⟩
  have o2 := o1.step b2
  clear b2 o1
  go_wp2_with fail
  refine (new_c (onesB 1024) _ (by rw [isB_ones]; rfl)).mono ?_
  rintro e w3 ⟨p, rfl, hp, hc3, b3⟩
  have o3 := o2.step b3
  have hBp : B ≤ p := Nat.le_trans o2.size hp
  clear b3 o2 hp
  go_wp2_with fail
  refine (ones_any 1025 (by omega) _).mono ?_
  rintro e w4 ⟨rfl, b4⟩
  have o4 := o3.step b4
  have hc4 := hc3.step b4
  clear b4 o3 hc3
  go_wp2_with fail
  refine (new_no (onesB 1025) _ (by rw [onesB_size]; unfold maxLen; omega) (by rw [isB_ones]; rfl)).mono ?_
  rintro e w' ⟨rfl, hw⟩
  subst hw
  go_wp2_with fail
  go_loopw [5] (fun i wr => ∃ k : Nat, k ≤ 16 ∧ i = .int .i64 k ∧ Cur 42 wr p (onesB 1024) (64 * k) false ∧ Old B w wr) (fun i _ => 16 - (intOf i).toNat)
  case atStart => exact ⟨0, by omega, rfl, hc4, o4⟩
  case round =>
    obtain ⟨k, hk, rfl, hc, o⟩ := hrel
    clear hc4 o4
    by_cases hlt : k < 16
    · go_wp2_with fail
      refine (takes_yes hc 65 0 0 false _ _ rfl (tk_none _ _ _ _ (by omega))).mono ?_
      rintro e w5 ⟨rfl, hc5, g5⟩
      have o5 := o.only g5 hBp
      clear g5 hc o
      go_wp2_with fail
      refine (takes_yes hc5 (-1) 0 0 false _ _ rfl (tk_none _ _ _ _ (by omega))).mono ?_
      rintro e w6 ⟨rfl, hc6, g6⟩
      have o6 := o5.only g6 hBp
      clear g6 hc5 o5
      go_wp2_with fail
      refine (takes_yes hc6 64 18446744073709551615 18446744073709551615 true _ _ rfl (tk_ones k hlt)).mono ?_
      rintro e w7 ⟨rfl, hc7, g7⟩
      have o7 := o6.only g7 hBp
      clear g7 hc6 o6
      go_wp2_with fail
      have e64 : ((64 * (k + 1) : Nat) : Int) = 64 * ((k : Int) + 1) := by omega
      refine (at_any hc7).mono ?_
      rw [e64]
      clear e64
      rintro e w' ⟨rfl, hw⟩
      subst hw
      go_wp2_with fail
      go_roundw
      case rel => exact ⟨k + 1, by omega, by go_num, hc7, o7⟩
      case measure => simp [intOf]; omega
    · obtain rfl : k = 16 := by omega
      have t0 : tk (onesB 1024) 1024 false 0 = (0, true, 1024, false) := by
        unfold tk; rw [if_neg (by simp), onesB_size, if_neg (by simp)]
        simp [seg_zero, num]
      have t1 : tk (onesB 1024) 1024 false 1 = (0, false, 1024, true) := by
        unfold tk; rw [if_neg (by simp), onesB_size, if_pos (by simp)]
      have hsz := onesB_size 1024
      have T0 := Lib.hid t0; clear t0
      have T1 := Lib.hid t1; clear t1
      have HS := Lib.hid hsz; clear hsz
      go_wp2_with fail
      refine (takes_yes hc 0 0 0 true _ _ rfl T0.out).mono ?_
      rintro e w8 ⟨rfl, hc8, g8⟩
      have o8 := o.only g8 hBp
      clear g8 hc o
      go_wp2_with fail
      refine (over_any hc8).mono ?_
      rintro e w' ⟨rfl, hw⟩
      subst hw
      go_wp2_with fail
      refine (takes_yes hc8 1 0 0 false _ _ rfl T1.out).mono ?_
      rintro e w9 ⟨rfl, hc9, g9⟩
      have o9 := o8.only g9 hBp
      clear g9 hc8 o8
      go_wp2_with fail
      refine (over_any hc9).mono ?_
      rintro e w' ⟨rfl, hw⟩
      subst hw
      go_wp2_with fail
      refine (takes_yes hc9 0 0 0 false _ _ rfl (tk_none _ _ _ _ (.inr (.inr rfl)))).mono ?_
      rintro e w10 ⟨rfl, hc10, g10⟩
      have o10 := o9.only g10 hBp
      clear g10 hc9 o9
      go_wp2_with fail
      refine (left_q hc10 0 (by rw [HS.out]; rfl)).mono ?_
      rintro e w11 ⟨rfl, q11⟩
      have o11 := o10.q q11
      clear q11 hc10 o10
      go_wp2_with fail
      refine (new_c ⟨#[]⟩ _ (by decide)).mono ?_
      rintro e w12 ⟨q, rfl, hq, hd12, b12⟩
      have o12 := o11.step b12
      have hBq : B ≤ q := Nat.le_trans o11.size hq
      clear b12 o11 hq
      go_wp2_with fail
      have hf13 : Cur 42 (w12.alloc (.cells #[.string ⟨#[]⟩, .int .i64 0, .bool false] 42)) w12.heap.size ⟨#[]⟩ 0 false := Cur.new _ _ (by decide)
      have hd13 : Cur 42 (w12.alloc (.cells #[.string ⟨#[]⟩, .int .i64 0, .bool false] 42)) q ⟨#[]⟩ 0 false := ⟨hd12.blk.alloc _, hd12.is, hd12.le⟩
      have o13 : Old B w (w12.alloc (.cells #[.string ⟨#[]⟩, .int .i64 0, .bool false] 42)) := o12.step ((Below.refl _ _).alloc (Nat.le_refl _) _)
      have hqr : q < w12.heap.size := hd12.lt
      generalize (w12.alloc (.cells #[.string ⟨#[]⟩, .int .i64 0, .bool false] 42)) = w13 at *
      generalize w12.heap.size = r at *
      clear o12 hd12
      refine (takes_yes hd13 0 0 0 true 0 false rfl (by decide)).mono ?_
      rintro e w14 ⟨rfl, hd14, g14⟩
      have o14 := o13.only g14 hBq
      have hf14 := hf13.grown g14 (by omega)
      clear g14 hd13 o13 hf13 hd14
      go_wp2_with fail
      refine (takes_nil _ 0).mono ?_
      rintro e w' ⟨rfl, hw⟩
      subst hw
      go_wp2_with fail
      refine (takes_nil _ 1).mono ?_
      rintro e w' ⟨rfl, hw⟩
      subst hw
      go_wp2_with fail
      refine (at_nil _).mono ?_
      rintro e w' ⟨rfl, hw⟩
      subst hw
      go_wp2_with fail
      refine (left_nil _).mono ?_
      rintro e w' ⟨rfl, hw⟩
      subst hw
      go_wp2_with fail
      refine (rest_nil _).mono ?_
      rintro e w' ⟨rfl, hw⟩
      subst hw
      go_wp2_with fail
      refine (over_nil _).mono ?_
      rintro e w' ⟨rfl, hw⟩
      subst hw
      go_wp2_with fail
      refine (copy_nil _).mono ?_
      rintro e w' ⟨rfl, hw⟩
      subst hw
      go_wp2_with fail
      refine (takes_yes hf14 0 0 0 true 0 false rfl (by decide)).mono ?_
      rintro e w15 ⟨rfl, hf15, g15⟩
      have o15 := o14.only g15 (by omega)
      clear g15 hf14 o14
      go_wp2_with fail
      refine (takes_yes hf15 1 0 0 false 0 true rfl (by decide)).mono ?_
      rintro e w16 ⟨rfl, hf16, g16⟩
      have o16 := o15.only g16 (by omega)
      clear g16 hf15 o15
      go_wp2_with fail
      refine (over_any hf16).mono ?_
      rintro e w' ⟨rfl, hw⟩
      subst hw
      go_wp2_with fail
      go_ret
      exact ⟨rfl, by rw [← HB.out]; exact o16.b⟩
end Go.Proofs.Ytimclggnpllfhaa
