/- The walk of the statement CursorApart. -/
import Derived.Test.YtimclggnpllfhaaWalkC
namespace Go.Proofs.Ytimclggnpllfhaa
open Go.RowKit

theorem take_step {w : World} {q : Nat} {s : ByteArray} {f : Nat → Int} {j : Nat} {x : Nat × Bool} (h : Cur 42 w q s (tks s f j x).1 (tks s f j x).2) :
    Calls Try.prog 12 #[.pointer (some ⟨q, 0, none⟩), .int .i64 (f j)] w fun e w' =>
      ∃ (v : Nat) (ok : Bool), e = .returned (.tuple #[.int .u64 v, .bool ok]) ∧ Cur 42 w' q s (tks s f (j + 1) x).1 (tks s f (j + 1) x).2 ∧ w.grownBy w' (some q) :=
  (take_any h (f j)).mono fun _ _ ⟨he, hc, hg⟩ => ⟨_, _, he, hc, hg⟩

set_option maxRecDepth 100000 in
set_option maxHeartbeats 2000000 in
theorem apart_walk (s : ByteArray) (A : Option Addr) (len cap : Nat) (zs : List Int) (A2 : Option Addr) (len2 cap2 : Nat) (zs2 : List Int) (w : World) (hs : s.size ≤ 140737488351232) (hn : len ≤ maxLen) (hI : Ints w w.heap.size A len zs) (hn2 : len2 ≤ maxLen) (hI2 : Ints w w.heap.size A2 len2 zs2) :
    Calls Try.prog 8 #[.string s, .slice A len cap, .slice A2 len2 cap2] w fun e w' => e = .returned (.bool true) ∧ Below w.heap.size w w' := by
  have hs' : s.size ≤ maxLen := by unfold maxLen; omega
  unfold maxLen at hn hn2
  by_cases hbig : 2000 < s.size
  · go_enter Try.func8, Try.ntmps8
    go_wp2_with (go_at_call 9; refine (awake_any _).mono ?_; rintro e w' ⟨rfl, hb⟩)
    go_ret
    exact ⟨rfl, by assumption⟩
  by_cases hbig2 : 100 < len
  · go_enter Try.func8, Try.ntmps8
    go_wp2_with (go_at_call 9; refine (awake_any _).mono ?_; rintro e w' ⟨rfl, hb⟩)
    go_ret
    exact ⟨rfl, by assumption⟩
  by_cases hbig3 : 100 < len2
  · go_enter Try.func8, Try.ntmps8
    go_wp2_with (go_at_call 9; refine (awake_any _).mono ?_; rintro e w' ⟨rfl, hb⟩)
    go_ret
    exact ⟨rfl, by assumption⟩
  obtain ⟨B, hB⟩ : ∃ B, B = w.heap.size := ⟨_, rfl⟩
  have o0 : Old B w w := hB ▸ Old.start w
  rw [← hB] at hI hI2
  have HB := Lib.hid hB; clear hB
  have HI := Lib.hid hI; clear hI
  have HJ := Lib.hid hI2; clear hI2
  obtain ⟨f, hf⟩ : ∃ f : Nat → Int, ∀ i, f i = zs2.getD i 0 := ⟨_, fun _ => rfl⟩
  have HF := Lib.hid hf; clear hf
  by_cases his : isB s.data.toList = true
  · go_enter Try.func8, Try.ntmps8
    go_wp2_with fail
    refine (awake_any _).mono ?_
    rintro e w1 ⟨rfl, b1⟩
    have o1 := o0.step b1
    clear b1 o0
    go_wp2_with fail
    refine (new_c s _ his).mono ?_
    rintro e w2 ⟨p, rfl, hp, hc2, b2⟩
    have o2 := o1.step b2
    have hBp : B ≤ p := Nat.le_trans o1.size hp
    clear b2 o1 hp
    go_wp2_with fail
    go_loopw [9] (fun i wr => ∃ k : Nat, k ≤ len ∧ i = .int .i64 k ∧ ∃ a ov, Cur 42 wr p s a ov ∧ Old B w wr) (fun i _ => len - (intOf i).toNat)
    case atStart => exact ⟨0, Nat.zero_le _, rfl, 0, false, hc2, o2⟩
    case round =>
      obtain ⟨k, hk, rfl, a, ov, hc, o⟩ := hrel
      clear hc2 o2
      by_cases hlt : k < len
      · obtain ⟨b, off, rfl, hbp, hcell⟩ := HI.out (by omega)
        have c0 : wr.cell? ⟨b, off + k, none⟩ = some (.int .i64 (zs.getD k 0)) := (o.b.cell (p := ⟨b, off + k, none⟩) hbp).trans (hcell k hlt)
        clear hcell
        generalize zs.getD k 0 = z at c0
        go_wp2_with fail
        refine (take_any hc z).mono ?_
        rintro e w3 ⟨rfl, hc3, g3⟩
        have o3 := o.only g3 hBp
        clear g3 hc o c0
        go_wp2_with fail
        go_roundw
        case rel => exact ⟨k + 1, by omega, by go_num, _, _, hc3, o3⟩
        case measure => simp [intOf]; omega
      · obtain rfl : k = len := by omega
        go_wp2_with fail
        refine (copy_c hc).mono ?_
        rintro e w3 ⟨q, rfl, hq, hd3, b3⟩
        have hc3 := hc.step b3
        have hpq : p < q := Nat.lt_of_lt_of_le hc.lt hq
        have o3 := o.step b3
        clear b3 hq hc o
        go_wp2_with fail
        refine (at_any hc3).mono ?_
        rintro e w' ⟨rfl, hw⟩
        subst hw
        go_wp2_with fail
        refine (over_any hc3).mono ?_
        rintro e w' ⟨rfl, hw⟩
        subst hw
        go_wp2_with fail
        go_loopw [13] (fun i wr => ∃ j : Nat, j ≤ len2 ∧ i = .int .i64 j ∧ Cur 42 wr p s a ov ∧ Cur 42 wr q s (tks s f j (a, ov)).1 (tks s f j (a, ov)).2 ∧ Old B w wr) (fun i _ => len2 - (intOf i).toNat)
        case atStart => exact ⟨0, Nat.zero_le _, rfl, hc3, hd3, o3⟩
        case round =>
          obtain ⟨j, hj, rfl, hc, hd, o⟩ := hrel
          clear hc3 hd3 o3
          by_cases hlt2 : j < len2
          · obtain ⟨b, off, rfl, hbp, hcell⟩ := HJ.out (by omega)
            have c0 : wr.cell? ⟨b, off + j, none⟩ = some (.int .i64 (f j)) := by rw [HF.out]; exact (o.b.cell (p := ⟨b, off + j, none⟩) hbp).trans (hcell j hlt2)
            clear hcell
            go_wp2_with fail
            refine (take_step hd).mono ?_
            rintro e w3 ⟨v, ok, rfl, hd3, g3⟩
            have o3 := o.only g3 (by omega)
            have hc3 := hc.grown g3 (by omega)
            clear g3 hc hd o c0
            go_wp2_with fail
            go_roundw
            case rel => exact ⟨j + 1, by omega, by go_num, hc3, hd3, o3⟩
            case measure => simp [intOf]; omega
          · obtain rfl : j = len2 := by omega
            generalize hy : tks s f j (a, ov) = y at hd
            have HY := Lib.hid hy; clear hy
            go_wp2_with fail
            refine (at_any hc).mono ?_
            rintro e w' ⟨rfl, hw⟩
            subst hw
            go_wp2_with fail
            refine (over_any hc).mono ?_
            rintro e w' ⟨rfl, hw⟩
            subst hw
            go_wp2_with fail
            refine (copy_c hc).mono ?_
            rintro e w4 ⟨r, rfl, hr, hf4, b4⟩
            have hc4 := hc.step b4
            have hd4 := hd.step b4
            have hpr : p < r := Nat.lt_of_lt_of_le hc.lt hr
            have hqr : q < r := Nat.lt_of_lt_of_le hd.lt hr
            have o4 := o.step b4
            clear b4 hr hc hd o
            go_wp2_with fail
            go_loopw [15] (fun i wr => ∃ m : Nat, m ≤ j ∧ i = .int .i64 m ∧ Cur 42 wr p s (tks s f m (a, ov)).1 (tks s f m (a, ov)).2 ∧ Cur 42 wr q s y.1 y.2 ∧ Cur 42 wr r s a ov ∧ Old B w wr) (fun i _ => j - (intOf i).toNat)
            case atStart => exact ⟨0, Nat.zero_le _, rfl, hc4, hd4, hf4, o4⟩
            case round =>
              obtain ⟨m, hm, rfl, hc, hd, hf, o⟩ := hrel
              clear hc4 hd4 hf4 o4
              by_cases hlt3 : m < j
              · obtain ⟨b, off, rfl, hbp, hcell⟩ := HJ.out (by omega)
                have c0 : wr.cell? ⟨b, off + m, none⟩ = some (.int .i64 (f m)) := by rw [HF.out]; exact (o.b.cell (p := ⟨b, off + m, none⟩) hbp).trans (hcell m hlt3)
                clear hcell
                go_wp2_with fail
                refine (take_step hc).mono ?_
                rintro e w5 ⟨v, ok, rfl, hc5, g5⟩
                have o5 := o.only g5 hBp
                have hd5 := hd.grown g5 (by omega)
                have hf5 := hf.grown g5 (by omega)
                clear g5 hc hd hf o c0
                go_wp2_with fail
                go_roundw
                case rel => exact ⟨m + 1, by omega, by go_num, hc5, hd5, hf5, o5⟩
                case measure => simp [intOf]; omega
              obtain rfl : m = j := by omega
              rw [HY.out] at hc
              obtain ⟨y1, y2⟩ := y
              go_wp2_with fail
              refine (at_any hc).mono ?_
              rintro e w' ⟨rfl, hw⟩
              subst hw
              go_wp2_with fail
              refine (at_any hd).mono ?_
              rintro e w' ⟨rfl, hw⟩
              subst hw
              go_wp2_with fail
              refine (over_any hc).mono ?_
              rintro e w' ⟨rfl, hw⟩
              subst hw
              go_wp2_with fail
              refine (over_any hd).mono ?_
              rintro e w' ⟨rfl, hw⟩
              subst hw
              go_wp2_with fail
              refine (rest_q hc _ rfl).mono ?_
              rintro e w6 ⟨rfl, q6⟩
              have hd6 := hd.q q6
              have hf6 := hf.q q6
              have o6 := o.q q6
              clear q6 hc hd hf o
              go_wp2_with fail
              refine (rest_q hd6 _ rfl).mono ?_
              rintro e w7 ⟨rfl, q7⟩
              have hf7 := hf6.q q7
              have o7 := o6.q q7
              clear q7 hd6 hf6 o6
              go_wp2_with fail
              refine (at_any hf7).mono ?_
              rintro e w' ⟨rfl, hw⟩
              subst hw
              go_wp2_with fail
              refine (over_any hf7).mono ?_
              rintro e w' ⟨rfl, hw⟩
              subst hw
              go_wp2_with fail
              go_ret
              exact ⟨rfl, by rw [← HB.out]; exact o7.b⟩
  · have his' : isB s.data.toList = false := by simpa using his
    clear his
    have HN := Lib.hid his'; clear his'
    go_enter Try.func8, Try.ntmps8
    go_wp2_with fail
    refine (awake_any _).mono ?_
    rintro e w1 ⟨rfl, b1⟩
    have o1 := o0.step b1
    clear b1 o0
    go_wp2_with fail
    refine (new_no s _ hs' HN.out).mono ?_
    rintro e w' ⟨rfl, rfl⟩
    go_wp2
    go_ret
    exact ⟨rfl, by rw [← HB.out]; exact o1.b⟩
end Go.Proofs.Ytimclggnpllfhaa
