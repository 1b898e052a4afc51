/- The walk of the statement CursorJoins. -/
import Derived.Test.YtimclggnpllfhaaWalkC
namespace Go.Proofs.Ytimclggnpllfhaa
open Go.RowKit

theorem seg_add (s : ByteArray) (a n m : Nat) : seg s a (n + m) = seg s a n ++ seg s (a + n) m := by
  unfold seg
  rw [List.take_add, List.drop_drop]

theorem pow_le_64 (k : Nat) (h : k ≤ 64) : 2 ^ k ≤ 18446744073709551616 := Nat.pow_le_pow_right (n := 2) (j := 64) (by omega) h
theorem shl_small (x N M : Nat) (hx : x < 2 ^ N) (h : N + M ≤ 64) : x * 2 ^ M < 18446744073709551616 := by
  have h1 : x * 2 ^ M < 2 ^ N * 2 ^ M := Nat.mul_lt_mul_of_pos_right hx (Nat.two_pow_pos M)
  rw [← Nat.pow_add] at h1
  exact Nat.lt_of_lt_of_le h1 (pow_le_64 _ h)
theorem shl_or (x y N M : Nat) (hx : x < 2 ^ N) (hy : y < 2 ^ M) (h : N + M ≤ 64) : (x : Int) * 2 ^ M + (y : Int) = bits BinOp.or IntKind.u64 (IntKind.u64.wrap ((x : Int) * 2 ^ M)) (y : Int) := by
  have hs := shl_small x N M hx h
  have hy2 : y < 18446744073709551616 := Nat.lt_of_lt_of_le hy (pow_le_64 _ (by omega))
  have e : (x : Int) * 2 ^ M = ((x * 2 ^ M : Nat) : Int) := by rw [Int.natCast_mul, Int.natCast_pow]; rfl
  rw [e]
  generalize hz : x * 2 ^ M = z at *
  have ew : IntKind.u64.wrap (z : Int) = (z : Int) := by rw [IntKind.wrap_u64]; omega
  rw [ew, u64_or _ _ (by omega) (by omega) (by omega) (by omega), Int.toNat_natCast, Int.toNat_natCast, ← hz, Nat.mul_comm x, ← Nat.two_pow_add_eq_or_of_lt hy]
  omega
theorem one_shl (x N : Nat) (hx : x < 2 ^ N) (h : N ≤ 64) (hn : ¬ (N : Int) = 64) : (x : Int) < IntKind.u64.wrap (2 ^ N) := by
  have hp : 2 ^ N ≤ 2 ^ 63 := Nat.pow_le_pow_right (by omega) (by omega)
  have e : (2 : Int) ^ N = ((2 ^ N : Nat) : Int) := by rw [Int.natCast_pow]; rfl
  rw [e]
  generalize 2 ^ N = z at *
  rw [IntKind.wrap_u64]; omega
theorem take_eq {w : World} {p : Nat} {s : ByteArray} {a : Nat} {ov : Bool} (h : Cur 42 w p s a ov) (n : Int) {x : Nat} {ok : Bool} {a' : Nat} {ov' : Bool} (ht : tk s a ov n = (x, ok, a', ov')) :
    Calls Try.prog 12 #[.pointer (some ⟨p, 0, none⟩), .int .i64 n] w fun e w' =>
      e = .returned (.tuple #[.int .u64 x, .bool ok]) ∧ Cur 42 w' p s a' ov' ∧ w.grownBy w' (some p) := by
  have h := take_any h n
  rw [ht] at h
  exact h

set_option maxRecDepth 100000 in
set_option maxHeartbeats 1000000 in
theorem joins_walk (s : ByteArray) (ahead n m : Int) (w : World) (hs : s.size ≤ 140737488351232) (ha : 0 ≤ ahead ∧ ahead ≤ 255) (hn : 0 ≤ n ∧ n ≤ 255) (hm : 0 ≤ m ∧ m ≤ 255) :
    Calls Try.prog 7 #[.string s, .int .u8 ahead, .int .u8 n, .int .u8 m] w fun e w' => e = .returned (.bool true) ∧ Below w.heap.size w w' := by
  have hs' : s.size ≤ maxLen := by unfold maxLen; omega
  by_cases hbig : 2000 < s.size
  · go_enter Try.func7, Try.ntmps7
    go_wp2_with (go_at_call 9; refine (awake_any _).mono ?_; rintro e w' ⟨rfl, hb⟩)
    go_ret
    exact ⟨rfl, by assumption⟩
  by_cases hbig2 : 64 < n % 65 + m % 65
  · go_enter Try.func7, Try.ntmps7
    go_wp2_with (go_at_call 9; refine (awake_any _).mono ?_; rintro e w' ⟨rfl, hb⟩)
    go_ret
    exact ⟨rfl, by assumption⟩
  obtain ⟨B, hB⟩ : ∃ B, B = w.heap.size := ⟨_, rfl⟩
  have o0 : Old B w w := hB ▸ Old.start w
  have HB := Lib.hid hB; clear hB
  by_cases his : isB s.data.toList = true
  · go_enter Try.func7, Try.ntmps7
    go_wp2_with fail
    refine (awake_any _).mono ?_
    rintro e w1 ⟨rfl, b1⟩
    have o1 := o0.step b1
    clear b1 o0
    go_wp2_with fail
    refine (new_c s _ his).mono ?_
    rintro e w2 ⟨p, rfl, hp, hc2, b2⟩
    have o2 := o1.step b2
    have hBp : B ≤ p := Nat.le_trans o1.size hp
    clear b2 o1 hp
    go_wp2_with fail
    go_loopw [13] (fun i wr => ∃ k : Nat, (k : Int) ≤ ahead ∧ i = .int .i64 k ∧ ∃ a ov, Cur 42 wr p s a ov ∧ Old B w wr) (fun i _ => ahead.toNat - (intOf i).toNat)
    case atStart => exact ⟨0, by omega, rfl, 0, false, hc2, o2⟩
    case round =>
      obtain ⟨k, hk, rfl, a, ov, hc, o⟩ := hrel
      clear hc2 o2
      by_cases hlt : (k : Int) < ahead
      · go_wp2_with fail
        refine (take_any hc 1).mono ?_
        rintro e w3 ⟨rfl, hc3, g3⟩
        have o3 := o.only g3 hBp
        clear g3 hc o
        go_wp2_with fail
        go_roundw
        case rel => exact ⟨k + 1, by omega, by go_num, _, _, hc3, o3⟩
        case measure => simp [intOf]; omega
      cases ov
      · go_wp2_with fail
        refine (over_any hc).mono ?_
        rintro e w' ⟨rfl, hw⟩
        subst hw
        go_wp2_with fail
        refine (copy_c hc).mono ?_
        rintro e w3 ⟨q, rfl, hq, hd3, b3⟩
        have hc3 := hc.step b3
        have hpq : p < q := Nat.lt_of_lt_of_le hc.lt hq
        have o3 := o.step b3
        clear b3 hq hc o
        go_wp2_with fail
        have hx0 : 0 ≤ n % 65 := by omega
        have hy0 : 0 ≤ m % 65 := by omega
        generalize n % 65 = x0 at *
        generalize m % 65 = y0 at *
        obtain ⟨N, rfl⟩ := Int.eq_ofNat_of_zero_le hx0
        obtain ⟨M, rfl⟩ := Int.eq_ofNat_of_zero_le hy0
        have hle := hc3.le
        by_cases h1 : s.size < a + N
        · have t1 : tk s a false N = (0, false, a, true) := by unfold tk; rw [if_neg (by simp; omega), if_pos (by omega)]
          have t2 : tk s a true M = (0, false, a, true) := by unfold tk; rw [if_pos (.inr (.inr rfl))]
          have t3 : tk s a false ((N : Int) + M) = (0, false, a, true) := by unfold tk; rw [if_neg (by simp; omega), if_pos (by omega)]
          have T1 := Lib.hid t1; clear t1
          have T2 := Lib.hid t2; clear t2
          have T3 := Lib.hid t3; clear t3
          refine (take_eq hc3 _ T1.out).mono ?_
          rintro e w4 ⟨rfl, hc4, g4⟩
          have hd4 := hd3.grown g4 (by omega)
          have o4 := o3.only g4 hBp
          clear g4 hc3 hd3 o3
          go_wp2_with fail
          refine (take_eq hc4 _ T2.out).mono ?_
          rintro e w5 ⟨rfl, hc5, g5⟩
          have hd5 := hd4.grown g5 (by omega)
          have o5 := o4.only g5 hBp
          clear g5 hc4 hd4 o4
          go_wp2_with fail
          refine (take_eq hd5 _ T3.out).mono ?_
          rintro e w6 ⟨rfl, hd6, g6⟩
          have hc6 := hc5.grown g6 (by omega)
          have o6 := o5.only g6 (by omega)
          clear g6 hc5 hd5 o5
          go_wp2
          go_ret
          exact ⟨rfl, by rw [← HB.out]; exact o6.b⟩
        by_cases h2 : s.size < a + N + M
        · have t1 : tk s a false N = (num (seg s a N), true, a + N, false) := by unfold tk; rw [if_neg (by simp; omega), if_neg (by omega)]; rfl
          have t2 : tk s (a + N) false M = (0, false, a + N, true) := by unfold tk; rw [if_neg (by simp; omega), if_pos (by omega)]
          have t3 : tk s a false ((N : Int) + M) = (0, false, a, true) := by unfold tk; rw [if_neg (by simp; omega), if_pos (by omega)]
          generalize num (seg s a N) = x at t1
          have T1 := Lib.hid t1; clear t1
          have T2 := Lib.hid t2; clear t2
          have T3 := Lib.hid t3; clear t3
          refine (take_eq hc3 _ T1.out).mono ?_
          rintro e w4 ⟨rfl, hc4, g4⟩
          have hd4 := hd3.grown g4 (by omega)
          have o4 := o3.only g4 hBp
          clear g4 hc3 hd3 o3
          go_wp2_with fail
          refine (take_eq hc4 _ T2.out).mono ?_
          rintro e w5 ⟨rfl, hc5, g5⟩
          have hd5 := hd4.grown g5 (by omega)
          have o5 := o4.only g5 hBp
          clear g5 hc4 hd4 o4
          go_wp2_with fail
          refine (take_eq hd5 _ T3.out).mono ?_
          rintro e w6 ⟨rfl, hd6, g6⟩
          have hc6 := hc5.grown g6 (by omega)
          have o6 := o5.only g6 (by omega)
          clear g6 hc5 hd5 o5
          go_wp2
          go_ret
          exact ⟨rfl, by rw [← HB.out]; exact o6.b⟩
        · have t1 : tk s a false N = (num (seg s a N), true, a + N, false) := by unfold tk; rw [if_neg (by simp; omega), if_neg (by omega)]; rfl
          have t2 : tk s (a + N) false M = (num (seg s (a + N) M), true, a + N + M, false) := by unfold tk; rw [if_neg (by simp; omega), if_neg (by omega)]; rfl
          have t3 : tk s a false ((N : Int) + M) = (num (seg s a N) * 2 ^ M + num (seg s (a + N) M), true, a + N + M, false) := by
            unfold tk; rw [if_neg (by simp; omega), if_neg (by omega)]
            have e : ((N : Int) + M).toNat = N + M := by omega
            rw [e, seg_add, num_append, seg_length s (a + N) M (by omega), Nat.add_assoc]
          have bx := seg_num_lt s a N (by omega)
          have by_ := seg_num_lt s (a + N) M (by omega)
          generalize num (seg s a N) = x at *
          generalize num (seg s (a + N) M) = y at *
          have T1 := Lib.hid t1; clear t1
          have T2 := Lib.hid t2; clear t2
          have T3 := Lib.hid t3; clear t3
          refine (take_eq hc3 _ T1.out).mono ?_
          rintro e w4 ⟨rfl, hc4, g4⟩
          have hd4 := hd3.grown g4 (by omega)
          have o4 := o3.only g4 hBp
          clear g4 hc3 hd3 o3
          go_wp2_with fail
          refine (take_eq hc4 _ T2.out).mono ?_
          rintro e w5 ⟨rfl, hc5, g5⟩
          have hd5 := hd4.grown g5 (by omega)
          have o5 := o4.only g5 hBp
          clear g5 hc4 hd4 o4
          go_wp2_with fail
          refine (take_eq hd5 _ T3.out).mono ?_
          rintro e w6 ⟨rfl, hd6, g6⟩
          have hc6 := hc5.grown g6 (by omega)
          have o6 := o5.only g6 (by omega)
          clear g6 hc5 hd5 o5
          go_wp2_with fail
          rotate_left 2
          · exact absurd (one_shl x N bx (by omega) (by assumption)) (by omega)
          · exact absurd (shl_or x y N M bx by_ (by omega)) (by assumption)
          all_goals
            refine (at_any hc6).mono ?_
            rintro e w' ⟨rfl, hw⟩
            subst hw
            go_wp2_with fail
            refine (at_any hd6).mono ?_
            rintro e w' ⟨rfl, hw⟩
            subst hw
            go_wp2_with fail
            go_ret
            exact ⟨rfl, by rw [← HB.out]; exact o6.b⟩
      · go_wp2_with fail
        refine (over_any hc).mono ?_
        rintro e w' ⟨rfl, hw⟩
        subst hw
        go_wp2
        go_ret
        exact ⟨rfl, by rw [← HB.out]; exact o.b⟩
  · have his' : isB s.data.toList = false := by simpa using his
    clear his
    have HN := Lib.hid his'; clear his'
    go_enter Try.func7, Try.ntmps7
    go_wp2_with fail
    refine (awake_any _).mono ?_
    rintro e w1 ⟨rfl, b1⟩
    have o1 := o0.step b1
    clear b1 o0
    go_wp2_with fail
    refine (new_no s _ hs' HN.out).mono ?_
    rintro e w' ⟨rfl, rfl⟩
    go_wp2
    go_ret
    exact ⟨rfl, by rw [← HB.out]; exact o1.b⟩
end Go.Proofs.Ytimclggnpllfhaa
