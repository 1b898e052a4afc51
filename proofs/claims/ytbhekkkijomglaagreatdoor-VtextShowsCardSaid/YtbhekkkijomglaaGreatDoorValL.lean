/- The walk of Long. -/
import Derived.Test.YtbhekkkijomglaaGreatDoorValS
namespace Go.Proofs.YtbhekkkijomglaaGreatDoor
open Go.RowKit

theorem dec_6000 (q : Nat) : decide ((6000 : Int) ≤ (q : Int)) = decide (6000 ≤ q) := by
  by_cases h : 6000 ≤ q
  · rw [decide_eq_true h, decide_eq_true (by omega)]
  · rw [decide_eq_false h, decide_eq_false (by omega)]

set_option maxRecDepth 100000 in
set_option maxHeartbeats 1000000 in
theorem vlong_any (l : List V) (A : Option Addr) (c : Nat) (w : World) (hll : l.length ≤ 140737488351232) (hf : ∀ x ∈ l, x.Fits) (hA : Vsl w w.heap.size A l) :
    Calls Tryz.prog 11 #[.slice A l.length c] w fun e w' => e = .returned (.bool (decide (6000 ≤ V.weighs l 0 6000))) ∧ Below w.heap.size w w' := by
  have HF := Lib.hid hf
  clear hf
  have H0 : Hid (V.weighs (l.drop 0) 0 6000 = V.weighs l 0 6000) := rfl
  generalize hR : V.weighs l 0 6000 = R at *
  clear hR
  go_enter Tryz.func11, Tryz.ntmps11
  go_wp2_with fail
  go_loopw [3, 4] (fun nn i wr => ∃ j q : Nat, j ≤ l.length ∧ i = .int .i64 j ∧ nn = .int .i64 q ∧ q ≤ 6000 ∧ Hid (V.weighs (l.drop j) q 6000 = R) ∧ Below w.heap.size w wr) (fun _ i _ => l.length - (intOf i).toNat)
  case atStart => exact ⟨0, 0, Nat.zero_le _, rfl, rfl, by omega, H0.out, Below.refl _ _⟩
  case round =>
    obtain ⟨j, q, hj, rfl, rfl, hq2, HW, hbw⟩ := hrel
    by_cases hlt : j < l.length
    · obtain ⟨y, hy⟩ : ∃ y, l[j]? = some y := ⟨l[j], List.getElem?_eq_getElem hlt⟩
      have hdr := drop_cons hy
      have hw := HW.out
      rw [hdr, V.weighs] at hw
      by_cases hqm : q < 6000
      · rw [if_pos hqm] at hw
        obtain ⟨g1, o1, A1, d1, rfl, hg1, p0, p1, p2, hA1⟩ := (hA.held hbw).at_ hy
        have hmem : y ∈ l := List.mem_of_getElem? hy
        have hwl := weigh_le y (6000 - q) (by omega)
        have hcall := fun W h => weigh_any y (6000 - q) A1 d1 W (HF.out y hmem) (by omega) (by omega) h
        have hms : ((6000 - q : Nat) : Int) = (6000 : Int) - (q : Int) := by omega
        rw [hms] at hcall
        generalize y.weigh (6000 - q) = z at *
        have HC : Hid (∀ W, Vsl W W.heap.size A1 y.l → Calls Tryz.prog 27 #[.agg #[.int .u8 y.k, .int .i64 y.n, .slice A1 y.l.length d1], .int .i64 ((6000 : Int) - (q : Int))] W fun e w' => e = .returned (.int .i64 (z : Nat)) ∧ Below W.heap.size W w') := hcall
        have HB := Lib.hid hbw; have HW2 := Lib.hid hw; have HA1 := Lib.hid hA1
        have j0 : (0 : Int) ≤ (j : Int) := by omega
        have j1 : (j : Int) < (l.length : Int) := by omega
        clear hcall hA1 hy hmem hbw hA hdr hw hms HW
        go_wp2_with fail
        refine (HC.out _ (HA1.out.more HB.out.size)).mono ?_
        rintro e w3 ⟨rfl, hb3⟩
        have HX := Lib.hid (HB.out.trans (hb3.mono HB.out.size))
        clear hb3
        go_wp2_with fail
        go_roundw
        case rel => exact ⟨j + 1, q + z, by omega, by go_num, by go_num, by omega, HW2.out, HX.out⟩
        case measure => simp [intOf]; omega
      · rw [if_neg hqm] at hw
        have HW2 := Lib.hid hw; have HB := Lib.hid hbw
        have hqi : ¬ (q : Int) < 6000 := by omega
        clear hw hbw hA hdr HW
        go_wp2_with fail
        go_ret
        exact ⟨ret_bool (a := true) (by rw [← HW2.out]; exact (decide_eq_true (by omega)).symm), HB.out⟩
    · obtain rfl : j = l.length := by omega
      have hw := HW.out
      rw [List.drop_length, V.weighs] at hw
      have HW2 := Lib.hid hw; have HB := Lib.hid hbw
      clear hw hbw hA HW
      go_wp2_with fail
      go_ret
      exact ⟨ret_bool (a := decide ((6000 : Int) ≤ (q : Int))) (by rw [← HW2.out]; exact dec_6000 q), HB.out⟩
end Go.Proofs.YtbhekkkijomglaaGreatDoor
