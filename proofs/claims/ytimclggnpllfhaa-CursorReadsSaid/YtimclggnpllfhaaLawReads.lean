/- The walk of the statement CursorReads. -/
import Derived.Test.YtimclggnpllfhaaWalkC
namespace Go.Proofs.Ytimclggnpllfhaa
open Go.RowKit

set_option maxHeartbeats 400000 in
theorem reads_walk (s : ByteArray) (A : Option Addr) (len cap : Nat) (zs : List Int) (w : World) (hs : s.size ≤ 140737488351232) (hn : len ≤ maxLen) (hI : Ints w w.heap.size A len zs) :
    Calls Try.prog 3 #[.string s, .slice A len cap] w fun e w' => e = .returned (.bool true) ∧ Below w.heap.size w w' := by
  have hs' : s.size ≤ maxLen := by unfold maxLen; omega
  unfold maxLen at hn
  by_cases hbig : 2000 < s.size
  · go_enter Try.func3, Try.ntmps3
    go_wp2_with (go_at_call 9; refine (awake_any _).mono ?_; rintro e w' ⟨rfl, hb⟩)
    go_ret
    exact ⟨rfl, by assumption⟩
  by_cases hbig2 : 200 < len
  · go_enter Try.func3, Try.ntmps3
    go_wp2_with (go_at_call 9; refine (awake_any _).mono ?_; rintro e w' ⟨rfl, hb⟩)
    go_ret
    exact ⟨rfl, by assumption⟩
  by_cases his : isB s.data.toList = true
  · obtain ⟨p, hp⟩ : ∃ p, p = w.heap.size := ⟨_, rfl⟩
    rw [← hp] at hI
    have HP := Lib.hid hp; clear hp
    have b0 : Below p w w := Below.refl _ _
    have HI := Lib.hid hI; clear hI
    go_enter Try.func3, Try.ntmps3
    go_wp2_with fail
    refine (new_yes s _ his).mono ?_
    rintro e w1 ⟨rfl, hw1⟩
    have hc : Cur 42 w1 p s 0 false := by rw [hw1, HP.out]; exact Cur.new _ _ his
    have b1 : Below p w w1 := by rw [hw1]; exact b0.alloc (by rw [HP.out]; exact Nat.le_refl _) _
    rw [show w.heap.size = p from HP.out.symm]
    clear hw1
    go_wp2_with fail
    refine (rnew_yes s _ his).mono ?_
    rintro e w2 ⟨rfl, hw2⟩
    obtain ⟨q, hq⟩ : ∃ q, q = w1.heap.size := ⟨_, rfl⟩
    have hr : Cur 48 w2 q s 0 false := by rw [hw2, hq]; exact Cur.new _ _ his
    have hpq : p < q := by rw [hq]; exact hc.lt
    have b2 : Below p w w2 := by rw [hw2]; exact b1.alloc (by have := hc.lt; omega) _
    have hc2 : Cur 42 w2 p s 0 false := by rw [hw2]; exact ⟨hc.blk.alloc _, hc.is, hc.le⟩
    rw [← hq]
    clear hw2 hq hc b1 b0
    go_wp2_with fail
    go_loopw [9] (fun i wr => ∃ k : Nat, k ≤ len ∧ i = .int .i64 k ∧ ∃ a ov, Cur 42 wr p s a ov ∧ Cur 48 wr q s a ov ∧ Below p w wr) (fun i _ => len - (intOf i).toNat)
    case atStart => exact ⟨0, Nat.zero_le _, rfl, 0, false, hc2, hr, b2⟩
    case round =>
      obtain ⟨k, hk, rfl, a, ov, hc, hr, hb⟩ := hrel
      clear hc2 b2
      by_cases hlt : k < len
      · obtain ⟨b, off, rfl, hbp, hcell⟩ := HI.out (by omega)
        have c0 : wr.cell? ⟨b, off + k, none⟩ = some (.int .i64 (zs.getD k 0)) := (hb.cell (p := ⟨b, off + k, none⟩) hbp).trans (hcell k hlt)
        generalize zs.getD k 0 = z at c0
        have ht : ∀ W, Cur 42 W p s a ov → _ := fun W h => take_any h z
        have hs2 : ∀ W, Cur 48 W q s a ov → _ := fun W h => rtake_any h z
        generalize tk s a ov z = r at ht hs2
        obtain ⟨x, ok, a', ov'⟩ := r
        have HT := Lib.hid ht; clear ht
        have HS := Lib.hid hs2; clear hs2
        have hne : p ≠ q := by omega
        go_wp2_with fail
        refine (HT.out _ hc).mono ?_
        rintro e w3 ⟨rfl, hc3, hg3⟩
        have hr3 := hr.grown hg3 (by omega)
        have b3 := below_of_only hb hg3 (Nat.le_of_lt hc.lt) (Nat.le_refl _)
        have c3 : w3.cell? ⟨b, off + k, none⟩ = some (.int .i64 z) := (hg3.cell c0 (by simp; omega))
        have hp3 := hc3.lt
        clear hg3 hr hb hc c0
        go_wp2_with fail
        refine (HS.out _ hr3).mono ?_
        rintro e w4 ⟨rfl, hr4, hg4⟩
        have hc4 := hc3.grown hg4 (by omega)
        have b4 := below_of_only b3 hg4 (Nat.le_of_lt hp3) (by omega)
        clear hg4 hr3 b3 hc3 c3 hp3
        go_wp2_with fail
        refine (like_any hc4 hr4).mono ?_
        rintro e w5 ⟨rfl, n5, hw5⟩
        have hc5 := hc4.drewN n5
        have hr5 := hr4.drewN n5
        have b5 := below_drewN b4 n5
        rw [← hw5] at hc5 hr5 b5
        clear hw5 hc4 hr4 b4
        go_wp2_with fail
        go_roundw
        case rel => exact ⟨k + 1, by omega, by go_num, a', ov', hc5, hr5, b5⟩
        case measure => simp [intOf]; omega
      · obtain rfl : k = len := by omega
        go_wp2_with fail
        refine (like_any hc hr).mono ?_
        rintro e w5 ⟨rfl, n5, hw5⟩
        have b5 := below_drewN hb n5
        rw [← hw5] at b5
        clear hw5 hc hr hb
        go_wp2_with fail
        refine (awake_any _).mono ?_
        rintro e w6 ⟨rfl, b6⟩
        have b7 := b5.trans (b6.mono (by have := b5.size; rw [← HP.out] at this; exact this))
        go_wp2
        go_ret
        exact ⟨rfl, by rw [← HP.out]; exact b7⟩
  · have his' : isB s.data.toList = false := by simpa using his
    have HN := Lib.hid his'; clear his his'
    go_enter Try.func3, Try.ntmps3
    go_wp2_with (first | (go_at_call 10; refine (new_no s _ hs' HN.out).mono ?_; rintro e w' ⟨rfl, rfl⟩) | (go_at_call 11; refine (rnew_no s _ hs' HN.out).mono ?_; rintro e w' ⟨rfl, rfl⟩) | (go_at_call 9; refine (awake_any _).mono ?_; rintro e w' ⟨rfl, hb⟩))
    go_ret
    exact ⟨rfl, by assumption⟩
end Go.Proofs.Ytimclggnpllfhaa
