/- The walk of the statement CursorOver. -/
import Derived.Test.YtimclggnpllfhaaWalkC
namespace Go.Proofs.Ytimclggnpllfhaa
open Go.RowKit

/-- The ways of a Take. -/
theorem tk_ways (s : ByteArray) (a : Nat) (ov : Bool) (n : Int) (_ha : a ≤ s.size) (_hs : s.size ≤ 1024) :
    (∃ k : Nat, n = k ∧ k ≤ 64 ∧ ov = false ∧ (k : Int) ≤ (s.size : Int) - a ∧ ∃ x a', a' = a + k ∧ tk s a ov n = (x, true, a', false)) ∨
    (n < 0 ∧ tk s a ov n = (0, false, a, ov)) ∨ (64 < n ∧ tk s a ov n = (0, false, a, ov)) ∨ (0 ≤ n ∧ n ≤ 64 ∧ ov = true ∧ tk s a ov n = (0, false, a, true)) ∨
    (0 ≤ n ∧ n ≤ 64 ∧ ov = false ∧ (s.size : Int) - a < n ∧ tk s a ov n = (0, false, a, true)) := by
  unfold tk
  by_cases h1 : n < 0
  · exact .inr (.inl ⟨h1, by rw [if_pos (.inl h1)]⟩)
  by_cases h2 : 64 < n
  · exact .inr (.inr (.inl ⟨h2, by rw [if_pos (.inr (.inl h2))]⟩))
  by_cases h3 : ov = true
  · subst h3; exact .inr (.inr (.inr (.inl ⟨by omega, by omega, rfl, by rw [if_pos (.inr (.inr rfl))]⟩)))
  have h3' : ov = false := by simpa using h3
  subst h3'
  rw [if_neg (by simp; omega)]
  by_cases h4 : ((s.size - a : Nat) : Int) < n
  · exact .inr (.inr (.inr (.inr ⟨by omega, by omega, rfl, by omega, by rw [if_pos h4]⟩)))
  · refine .inl ⟨n.toNat, by omega, by omega, rfl, by omega, _, _, rfl, by rw [if_neg h4]⟩

set_option maxRecDepth 100000 in
set_option maxHeartbeats 2000000 in
theorem over_walk (s : ByteArray) (A : Option Addr) (len cap : Nat) (zs : List Int) (w : World) (hs : s.size ≤ 140737488351232) (hn : len ≤ maxLen) (hI : Ints w w.heap.size A len zs) :
    Calls Try.prog 5 #[.string s, .slice A len cap] w fun e w' => e = .returned (.bool true) ∧ Below w.heap.size w w' := by
  have hs' : s.size ≤ maxLen := by unfold maxLen; omega
  unfold maxLen at hn
  by_cases hbig : 2000 < s.size
  · go_enter Try.func5, Try.ntmps5
    go_wp2_with (go_at_call 9; refine (awake_any _).mono ?_; rintro e w' ⟨rfl, hb⟩)
    go_ret
    exact ⟨rfl, by assumption⟩
  by_cases hbig2 : 200 < len
  · go_enter Try.func5, Try.ntmps5
    go_wp2_with (go_at_call 9; refine (awake_any _).mono ?_; rintro e w' ⟨rfl, hb⟩)
    go_ret
    exact ⟨rfl, by assumption⟩
  obtain ⟨B, hB⟩ : ∃ B, B = w.heap.size := ⟨_, rfl⟩
  have o0 : Old B w w := hB ▸ Old.start w
  rw [← hB] at hI
  have HB := Lib.hid hB; clear hB
  have HI := Lib.hid hI; clear hI
  by_cases his : isB s.data.toList = true
  · go_enter Try.func5, Try.ntmps5
    go_wp2_with fail
    refine (awake_any _).mono ?_
    rintro e w1 ⟨rfl, b1⟩
    have o1 := o0.step b1
    clear b1 o0
    go_wp2_with fail
    refine (new_c s _ his).mono ?_
    rintro e w2 ⟨p, rfl, hp, hc2, b2⟩
    have o2 := o1.step b2
    have hBp : B ≤ p := Nat.le_trans o1.size hp
    have hsm := hc2.small
    clear b2 o1 hp
    go_wp2_with fail
    go_loopw [7, 8] (fun o i wr => ∃ k : Nat, k ≤ len ∧ i = .int .i64 k ∧ ∃ a ov, o = .bool ov ∧ Cur 42 wr p s a ov ∧ Old B w wr) (fun _ i _ => len - (intOf i).toNat)
    case atStart => exact ⟨0, Nat.zero_le _, rfl, 0, false, rfl, hc2, o2⟩
    case round =>
      obtain ⟨k, hk, rfl, a, ov, rfl, hc, o⟩ := hrel
      clear hc2 o2
      by_cases hlt : k < len
      · obtain ⟨b, off, rfl, hbp, hcell⟩ := HI.out (by omega)
        have c0 : wr.cell? ⟨b, off + k, none⟩ = some (.int .i64 (zs.getD k 0)) := (o.b.cell (p := ⟨b, off + k, none⟩) hbp).trans (hcell k hlt)
        clear hcell
        generalize zs.getD k 0 = z at c0
        have hT : ∀ W, Cur 42 W p s a ov → _ := fun W h => take_any h z
        have hle := hc.le
        have hways := tk_ways s a ov z hle hsm
        cases ov
        all_goals rcases hways with ⟨n, rfl, hz2, hov, hz3, x, a2, ha2, ht⟩ | ⟨hz, ht⟩ | ⟨hz, ht⟩ | ⟨hz, hz2, hov, ht⟩ | ⟨hz, hz2, hov, hz3, ht⟩
        all_goals first | (exact absurd hov (by decide)) | skip
        · have d4 : decide ((s.size : Int) - (a : Int) < (n : Int)) = false := decide_eq_false (by omega)
          rw [ht] at hT
          clear ht
          have HT := Lib.hid hT; clear hT
          go_wp2_with fail
          refine (at_any hc).mono ?_
          rintro e w' ⟨rfl, rfl⟩
          go_wp2_with fail
          refine (left_q hc _ rfl).mono ?_
          rintro e w3 ⟨rfl, q3⟩
          have hc3 := hc.q q3
          have o3 := o.q q3
          have c3 := q3.cell c0
          clear q3 hc o c0
          go_wp2_with fail
          refine (HT.out _ hc3).mono ?_
          rintro e w4 ⟨rfl, hc4, g4⟩
          have o4 := o3.only g4 hBp
          have c4 := g4.cell c3 (by simp; omega)
          clear g4 o3 hc3 c3
          have hle4 := hc4.le
          have e0 : ((a2 : Int) != (a : Int) + (n : Int)) = false := bne_eq_false_iff_eq.2 (by omega)
          have e01 : IntKind.i64.wrap ((a : Int) + (n : Int)) = (a : Int) + (n : Int) := IntWalk.i64_in _ (by omega)
          have HA2 := Lib.hid ha2; clear ha2
          go_wp2_with fail
          have e1 : IntKind.i64.wrap ((a2 : Int) + ((s.size : Int) - (a2 : Int))) = (a2 : Int) + ((s.size : Int) - (a2 : Int)) := IntWalk.i64_in _ (by omega)
          have e2 : (0 : Int) ≤ (a2 : Int) := by omega
          have e3 : ((a2 : Int)) ≤ (s.size : Int) := by omega
          have e4 : (((a2 : Int) + ((s.size : Int) - (a2 : Int))) != (s.size : Int)) = false := bne_eq_false_iff_eq.2 (by omega)
          have e5 : decide ((a2 : Int) < 0) = false := decide_eq_false (by omega)
          have e6 : decide (s.size < a2) = false := decide_eq_false (by omega)
          refine wp_region_quiet_lit (by kernel_rfl) (by kernel_rfl) ?_
          simp only [List.append_eq, List.cons_append, List.nil_append]
          repeat (go_big_quiet_step ((first | (go_at_call 16; exact Calls.quiet_of_same (at_any (hc4.drewN _))) | (go_at_call 18; exact Calls.quiet_of (left_any (hc4.drewN _))) | (go_at_call 17; exact Calls.quiet_of (rest_any (hc4.drewN _))) | (go_at_call 15; exact Calls.quiet_of_same (over_any (hc4.drewN _))))))
          refine wpQuiet_nil ?_
          intro _ hw'
          obtain ⟨nq, hw''⟩ := hw'
          subst hw''
          clear e1 e2 e3 e4 e5 e6 e0 e01
          go_wp2
          go_roundw
          case rel => exact ⟨k + 1, by omega, by go_num, a2, _, rfl, hc4.drewN _, o4.q ⟨_, rfl⟩⟩
          case measure => simp [intOf]; omega
        all_goals
          first | (have d1 : decide ((0 : Int) ≤ z) = true := decide_eq_true (by omega)) | (have d1 : decide ((0 : Int) ≤ z) = false := decide_eq_false (by omega)) | skip
          first | (have d2 : decide (z ≤ (64 : Int)) = true := decide_eq_true (by omega)) | (have d2 : decide (z ≤ (64 : Int)) = false := decide_eq_false (by omega)) | skip
          first | (have d3 : decide (z ≤ (s.size : Int) - (a : Int)) = true := decide_eq_true (by omega)) | (have d3 : decide (z ≤ (s.size : Int) - (a : Int)) = false := decide_eq_false (by omega)) | skip
          first | (have d4 : decide ((s.size : Int) - (a : Int) < z) = true := decide_eq_true (by omega)) | (have d4 : decide ((s.size : Int) - (a : Int) < z) = false := decide_eq_false (by omega)) | skip
          rw [ht] at hT
          clear ht
          have HT := Lib.hid hT; clear hT
          go_wp2_with fail
          refine (at_any hc).mono ?_
          rintro e w' ⟨rfl, rfl⟩
          go_wp2_with fail
          refine (left_q hc _ rfl).mono ?_
          rintro e w3 ⟨rfl, q3⟩
          have hc3 := hc.q q3
          have o3 := o.q q3
          have c3 := q3.cell c0
          clear q3 hc o c0
          go_wp2_with fail
          refine (HT.out _ hc3).mono ?_
          rintro e w4 ⟨rfl, hc4, g4⟩
          have o4 := o3.only g4 hBp
          have c4 := g4.cell c3 (by simp; omega)
          clear g4 o3 hc3 c3
          have hle4 := hc4.le
          go_wp2_with fail
          have e1 : IntKind.i64.wrap ((a : Int) + ((s.size : Int) - (a : Int))) = (a : Int) + ((s.size : Int) - (a : Int)) := IntWalk.i64_in _ (by omega)
          have e2 : (0 : Int) ≤ (a : Int) := by omega
          have e3 : ((a : Int)) ≤ (s.size : Int) := by omega
          have e4 : (((a : Int) + ((s.size : Int) - (a : Int))) != (s.size : Int)) = false := bne_eq_false_iff_eq.2 (by omega)
          have e5 : decide ((a : Int) < 0) = false := decide_eq_false (by omega)
          have e6 : decide (s.size < a) = false := decide_eq_false (by omega)
          refine wp_region_quiet_lit (by kernel_rfl) (by kernel_rfl) ?_
          simp only [List.append_eq, List.cons_append, List.nil_append]
          repeat (go_big_quiet_step ((first | (go_at_call 16; exact Calls.quiet_of_same (at_any (hc4.drewN _))) | (go_at_call 18; exact Calls.quiet_of (left_any (hc4.drewN _))) | (go_at_call 17; exact Calls.quiet_of (rest_any (hc4.drewN _))) | (go_at_call 15; exact Calls.quiet_of_same (over_any (hc4.drewN _))))))
          refine wpQuiet_nil ?_
          intro _ hw'
          obtain ⟨nq, hw''⟩ := hw'
          subst hw''
          clear e1 e2 e3 e4 e5 e6
          go_wp2
          go_roundw
          case rel => exact ⟨k + 1, by omega, by go_num, a, _, rfl, hc4.drewN _, o4.q ⟨_, rfl⟩⟩
          case measure => simp [intOf]; omega
      · obtain rfl : k = len := by omega
        go_wp2
        go_ret
        exact ⟨rfl, by rw [← HB.out]; exact o.b⟩
  · have his' : isB s.data.toList = false := by simpa using his
    clear his
    have HN := Lib.hid his'; clear his'
    go_enter Try.func5, Try.ntmps5
    go_wp2_with fail
    refine (awake_any _).mono ?_
    rintro e w1 ⟨rfl, b1⟩
    have o1 := o0.step b1
    clear b1 o0
    go_wp2_with fail
    refine (new_no s _ hs' HN.out).mono ?_
    rintro e w' ⟨rfl, rfl⟩
    go_wp2
    go_ret
    exact ⟨rfl, by rw [← HB.out]; exact o1.b⟩
end Go.Proofs.Ytimclggnpllfhaa
