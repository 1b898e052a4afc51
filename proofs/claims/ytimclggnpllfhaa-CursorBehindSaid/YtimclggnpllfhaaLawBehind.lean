/- The walk of the statement CursorBehind. -/
import Derived.Test.YtimclggnpllfhaaWalkC
namespace Go.Proofs.Ytimclggnpllfhaa
open Go.RowKit

theorem tk_false (s : ByteArray) (a : Nat) (n : Int) (h : (tk s a false n).2.2.2 = false) (t : ByteArray) (ha : a ≤ s.size) : tk (s ++ t) a false n = tk s a false n := by
  unfold tk at h ⊢
  by_cases hb : n < 0 ∨ 64 < n ∨ false = true
  · rw [if_pos hb, if_pos hb]
  · rw [if_neg hb] at h
    rw [if_neg hb, if_neg hb]
    by_cases hm : ((s.size - a : Nat) : Int) < n
    · rw [if_pos hm] at h; simp at h
    · have hz : (s ++ t).size = s.size + t.size := ByteArray.size_append
      rw [if_neg hm, if_neg (by rw [hz]; omega)]
      have e : seg (s ++ t) a n.toNat = seg s a n.toNat := by
        unfold seg
        have hl : s.data.toList.length = s.size := by simp
        rw [ByteArray.data_append, Array.toList_append, List.drop_append_of_le_length (by omega), List.take_append_of_le_length (by rw [List.length_drop]; omega)]
      rw [e]
theorem rest_more (s t : ByteArray) (a : Nat) (ha : a ≤ s.size) : (s ++ t).extract a (s ++ t).size = s.extract a s.size ++ t := by
  apply ByteArray.ext
  apply Array.ext'
  have hl : s.data.toList.length = s.size := by simp
  have hl2 : t.data.toList.length = t.size := by simp
  rw [ByteArray.data_append, ByteArray.data_extract, ByteArray.data_extract, Array.toList_append, Array.toList_extract, Array.toList_extract, ByteArray.data_append, Array.toList_append, ByteArray.size_append]
  simp only [List.extract_eq_take_drop]
  rw [List.drop_append_of_le_length (by omega), List.take_append, List.length_drop, hl]
  rw [List.take_of_length_le (by rw [List.length_drop]; omega), List.take_of_length_le (by omega), List.take_of_length_le (by rw [List.length_drop]; omega)]

set_option maxHeartbeats 1000000 in
theorem behind_walk (s t : ByteArray) (A : Option Addr) (len cap : Nat) (zs : List Int) (w : World) (hs : s.size ≤ 140737488351232) (ht : t.size ≤ 140737488351232) (hn : len ≤ maxLen) (hI : Ints w w.heap.size A len zs) :
    Calls Try.prog 4 #[.string s, .string t, .slice A len cap] w fun e w' => e = .returned (.bool true) ∧ Below w.heap.size w w' := by
  have hs' : s.size ≤ maxLen := by unfold maxLen; omega
  have hz : (s ++ t).size = s.size + t.size := ByteArray.size_append
  have ht' : (s ++ t).size ≤ maxLen := by unfold maxLen; omega
  have HZ := Lib.hid hz; clear hz
  unfold maxLen at hn
  by_cases hbig : 2000 < (s.size : Int) + t.size
  · go_enter Try.func4, Try.ntmps4
    go_wp2_with (go_at_call 9; refine (awake_any _).mono ?_; rintro e w' ⟨rfl, hb⟩)
    go_ret
    exact ⟨rfl, by assumption⟩
  by_cases hbig2 : 200 < len
  · go_enter Try.func4, Try.ntmps4
    go_wp2_with (go_at_call 9; refine (awake_any _).mono ?_; rintro e w' ⟨rfl, hb⟩)
    go_ret
    exact ⟨rfl, by assumption⟩
  obtain ⟨B, hB⟩ : ∃ B, B = w.heap.size := ⟨_, rfl⟩
  have o0 : Old B w w := hB ▸ Old.start w
  rw [← hB] at hI
  have HB := Lib.hid hB; clear hB
  have HI := Lib.hid hI; clear hI
  by_cases his : isB s.data.toList = true
  · by_cases hit : isB (s ++ t).data.toList = true
    · go_enter Try.func4, Try.ntmps4
      go_wp2_with fail
      refine (awake_any _).mono ?_
      rintro e w1 ⟨rfl, b1⟩
      have o1 := o0.step b1
      clear b1 o0
      go_wp2_with fail
      refine (new_c s _ his).mono ?_
      rintro e w2 ⟨p, rfl, hp, hc2, b2⟩
      have o2 := o1.step b2
      have hBp : B ≤ p := Nat.le_trans o1.size hp
      clear b2 o1 hp
      go_wp2_with fail
      refine (new_c (s ++ t) _ hit).mono ?_
      rintro e w3 ⟨q, rfl, hq, hd3, b3⟩
      have hc3 := hc2.step b3
      have hpq : p < q := Nat.lt_of_lt_of_le hc2.lt hq
      have o3 := o2.step b3
      clear b3 o2 hq hc2
      go_wp2_with fail
      go_loopw [11] (fun i wr => ∃ k : Nat, k ≤ len ∧ i = .int .i64 k ∧ ∃ a, Cur 42 wr p s a false ∧ Cur 42 wr q (s ++ t) a false ∧ Old B w wr) (fun i _ => len - (intOf i).toNat)
      case atStart => exact ⟨0, Nat.zero_le _, rfl, 0, hc3, hd3, o3⟩
      case round =>
        obtain ⟨k, hk, rfl, a, hc, hd, o⟩ := hrel
        clear hc3 hd3 o3
        by_cases hlt : k < len
        · obtain ⟨b, off, rfl, hbp, hcell⟩ := HI.out (by omega)
          have c0 : wr.cell? ⟨b, off + k, none⟩ = some (.int .i64 (zs.getD k 0)) := (o.b.cell (p := ⟨b, off + k, none⟩) hbp).trans (hcell k hlt)
          clear hcell
          generalize zs.getD k 0 = z at c0
          have hT : ∀ W, Cur 42 W p s a false → _ := fun W h => take_any h z
          have hU : ∀ W, Cur 42 W q (s ++ t) a false → _ := fun W h => take_any h z
          have hat := tk_at s a false z hc.le
          by_cases hov : (tk s a false z).2.2.2 = true
          · clear hU
            generalize tk s a false z = r at hT hov
            obtain ⟨x, ok, a', ov'⟩ := r
            simp only at hov
            subst hov
            have HT := Lib.hid hT; clear hT
            go_wp2_with fail
            refine (HT.out _ hc).mono ?_
            rintro e w4 ⟨rfl, hc4, g4⟩
            have o4 := o.only g4 hBp
            clear g4 o hc hd c0
            go_wp2_with fail
            refine (over_any hc4).mono ?_
            rintro e w' ⟨rfl, rfl⟩
            go_wp2
            go_ret
            exact ⟨rfl, by rw [← HB.out]; exact o4.b⟩
          · have hov' : (tk s a false z).2.2.2 = false := by simpa using hov
            rw [tk_false s a z hov' t hc.le] at hU
            clear hov
            generalize tk s a false z = r at hT hU hov' hat
            obtain ⟨x, ok, a', ov'⟩ := r
            simp only at hov' hat
            subst hov'
            have HT := Lib.hid hT; clear hT
            have HU := Lib.hid hU; clear hU
            go_wp2_with fail
            refine (HT.out _ hc).mono ?_
            rintro e w4 ⟨rfl, hc4, g4⟩
            have o4 := o.only g4 hBp
            have hd4 := hd.grown g4 (by omega)
            have c4 : w4.cell? ⟨b, off + k, none⟩ = some (.int .i64 z) := g4.cell c0 (by simp; omega)
            clear g4 o hc hd c0
            go_wp2_with fail
            refine (over_any hc4).mono ?_
            rintro e w' ⟨rfl, rfl⟩
            go_wp2_with fail
            refine (HU.out _ hd4).mono ?_
            rintro e w5 ⟨rfl, hd5, g5⟩
            have o5 := o4.only g5 (by omega)
            have hc5 := hc4.grown g5 (by omega)
            clear g5 o4 hc4 hd4 c4
            go_wp2_with fail
            refine (at_any hc5).mono ?_
            rintro e w' ⟨rfl, rfl⟩
            go_wp2_with fail
            refine (at_any hd5).mono ?_
            rintro e w' ⟨rfl, rfl⟩
            go_wp2_with fail
            refine (rest_q hd5 _ (rest_more s t a' hat)).mono ?_
            rintro e w6 ⟨rfl, q6⟩
            have o6 := o5.q q6
            have hc6 := hc5.q q6
            have hd6 := hd5.q q6
            clear q6 o5 hc5 hd5
            go_wp2_with fail
            refine (rest_q hc6 _ rfl).mono ?_
            rintro e w7 ⟨rfl, q7⟩
            have o7 := o6.q q7
            have hc7 := hc6.q q7
            have hd7 := hd6.q q7
            have hz7 : (s.extract a' s.size).size + t.size ≤ 9223372036854775807 := by rw [ByteArray.size_extract]; omega
            clear q7 o6 hc6 hd6
            go_wp2_with fail
            go_roundw
            case rel => exact ⟨k + 1, by omega, by go_num, a', hc7, hd7, o7⟩
            case measure => simp [intOf]; omega
        · obtain rfl : k = len := by omega
          go_wp2
          go_ret
          exact ⟨rfl, by rw [← HB.out]; exact o.b⟩
    · have hit' : isB (s ++ t).data.toList = false := by simpa using hit
      clear hit
      have HN := Lib.hid hit'; clear hit'
      go_enter Try.func4, Try.ntmps4
      go_wp2_with fail
      refine (awake_any _).mono ?_
      rintro e w1 ⟨rfl, b1⟩
      have o1 := o0.step b1
      clear b1 o0
      go_wp2_with fail
      refine (new_c s _ his).mono ?_
      rintro e w2 ⟨p, rfl, hp, hc2, b2⟩
      have o2 := o1.step b2
      clear b2 o1 hp hc2
      go_wp2_with fail
      refine (new_no (s ++ t) _ ht' HN.out).mono ?_
      rintro e w' ⟨rfl, rfl⟩
      go_wp2
      go_ret
      exact ⟨rfl, by rw [← HB.out]; exact o2.b⟩
  · have his' : isB s.data.toList = false := by simpa using his
    clear his
    have HN := Lib.hid his'; clear his'
    by_cases hit : isB (s ++ t).data.toList = true
    · go_enter Try.func4, Try.ntmps4
      go_wp2_with fail
      refine (awake_any _).mono ?_
      rintro e w1 ⟨rfl, b1⟩
      have o1 := o0.step b1
      clear b1 o0
      go_wp2_with fail
      refine (new_no s _ hs' HN.out).mono ?_
      rintro e w' ⟨rfl, rfl⟩
      go_wp2_with fail
      refine (new_c (s ++ t) _ hit).mono ?_
      rintro e w2 ⟨p, rfl, hp, hc2, b2⟩
      have o2 := o1.step b2
      clear b2 o1 hp hc2
      go_wp2
      go_ret
      exact ⟨rfl, by rw [← HB.out]; exact o2.b⟩
    · have hit' : isB (s ++ t).data.toList = false := by simpa using hit
      clear hit
      have HM := Lib.hid hit'; clear hit'
      go_enter Try.func4, Try.ntmps4
      go_wp2_with fail
      refine (awake_any _).mono ?_
      rintro e w1 ⟨rfl, b1⟩
      have o1 := o0.step b1
      clear b1 o0
      go_wp2_with fail
      refine (new_no s _ hs' HN.out).mono ?_
      rintro e w' ⟨rfl, rfl⟩
      go_wp2_with fail
      refine (new_no (s ++ t) _ ht' HM.out).mono ?_
      rintro e w' ⟨rfl, rfl⟩
      go_wp2
      go_ret
      exact ⟨rfl, by rw [← HB.out]; exact o1.b⟩
end Go.Proofs.Ytimclggnpllfhaa
