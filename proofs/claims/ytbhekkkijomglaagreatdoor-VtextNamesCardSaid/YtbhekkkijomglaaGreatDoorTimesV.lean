/- The walk of times: so many times a text. -/
import Derived.Test.YtbhekkkijomglaaGreatDoorShVZ
import Derived.Lib.AppendStr
import Derived.OwnWalk
import Derived.Laws.BytesString
import Derived.Laws.BytesArg
namespace Go.Proofs.YtbhekkkijomglaaGreatDoor
open Go.RowKit

def repsL (l : List UInt8) : Nat → List UInt8
  | 0 => []
  | n + 1 => repsL l n ++ l
theorem repsL_length (l : List UInt8) (n : Nat) : (repsL l n).length = n * l.length := by
  induction n with
  | zero => simp [repsL]
  | succ n ih => rw [repsL, List.length_append, ih, Nat.succ_mul]
theorem repsL_one (c : UInt8) (n : Nat) : repsL [c] n = List.replicate n c := by
  induction n with
  | zero => rfl
  | succ n ih => rw [repsL, ih, List.replicate_succ']
theorem nums_str (l : List UInt8) : strOfNums (l.map fun x => (x.toNat : Int)) = bs l := by
  apply ByteArray.ext
  apply Array.toList_inj.1
  rw [strOfNums_data, bs_list, List.map_map]
  conv => rhs; rw [← List.map_id l]
  apply List.map_congr_left
  intro x _
  simp
/-- A row of bytes that is owned, as a text. -/
theorem conv_own {w : World} {B : Nat} {v : Value} {l : List UInt8} (h : w.ownsRow B 5 1 v l.length (Lib.byteCells l)) : (Go.convert 40 9 v).run Tryz.prog w = .ok (.string (bs l)) w := by
  rcases h.2 with ⟨e1, e2⟩ | ⟨g, cap, cur, rfl, _⟩
  · have : l = [] := List.eq_nil_of_length_eq_zero e2
    subst this
    subst e1
    rw [run_convert_bytes_string _ _ _ 5 _ _ _ Tryz.underlying40 Tryz.underlying5 Tryz.underlying9]
    simp [Conv.bytesToString]
    rfl
  · have hr := Reads.of_own h
    rw [← nums_str l]
    refine run_convert_bytes_arg w _ 5 Tryz.underlying40 Tryz.underlying5 g 0 l.length cap (l.map fun x => (x.toNat : Int)) (by simp) (fun i hi => ?_) 9 Tryz.underlying9
    obtain ⟨ad, he, _, hc⟩ := hr.2 (by omega)
    injection he with he
    subst he
    have h1 := hc i (.int .u8 (l[i].toNat : Int)) (by simp [Lib.byteCells, hi])
    have h2 : (⟨g, 0, none⟩ : Addr).add i = ⟨g, 0 + i, none⟩ := by
      unfold Addr.add
      split
      · rename_i q; subst q; rfl
      · rfl
    rw [h2] at h1
    rw [h1]
    simp [List.getD, hi]
set_option maxRecDepth 100000 in
set_option maxHeartbeats 4000000 in
theorem times_any (s : ByteArray) (n : Nat) (w : World) (hn : n ≤ 100000) (hs : s.size ≤ 1000) :
    Calls Tryz.prog 21 #[.string s, .int .i64 n] w fun e w' => e = .returned (.string (bs (repsL s.data.toList n))) ∧ Below w.heap.size w w' := by
  obtain ⟨i0, hi, hz0, hz1, hz2⟩ := info_parts (P := Tryz.prog) (e := 5) (z := .int .u8 0) (size := 1) (bytes := 1) (by kernel_rfl)
  have HU : Tryz.prog.underlying 40 = some (.slice 5) := by kernel_rfl
  have hmul : n * s.size ≤ 100000000 := by have := Nat.mul_le_mul hn hs; omega
  have hm0 : (0 : Int) ≤ (n : Int) * (s.size : Int) := by rw [← Int.natCast_mul]; omega
  have hm1 : (n : Int) * (s.size : Int) ≤ 100000000 := by rw [← Int.natCast_mul]; omega
  have hw : IntKind.i64.wrap ((n : Int) * (s.size : Int)) = (n : Int) * (s.size : Int) := IntWalk.i64_in _ ⟨by omega, by omega⟩
  have hwm : (n : Int) * (s.size : Int) = ((n * s.size : Nat) : Int) := by rw [Int.natCast_mul]
  have HM := Lib.hid (And.intro hmul hwm)
  clear hwm hmul hm0 hm1
  go_enter Tryz.func21, Tryz.ntmps21
  go_wp2_with (at_make; refine wpList_make_own _ rfl _ _ 40 rfl w.heap.size 5 i0 (.int .u8 0) 1 HU hi hz0 hz1 .i64 .i64 _ (n * s.size) rfl rfl HM.out.2 (by rw [hz2]; have := HM.out.1; omega) (by unfold maxLen; have := HM.out.1; omega) (Nat.le_refl _) ?_; intro w1 hown1 hgrow1; have HO := Lib.hid (And.intro hown1 (Below.grown (Below.refl _ _) hgrow1 (Nat.le_refl _) (fun k hk => by cases hk))); clear hown1 hgrow1)
  go_loopw [5, 6] (fun v i wr => ∃ q : Nat, q ≤ n ∧ i = .int .i64 q ∧ wr.ownsRow w.heap.size 5 1 v (q * s.size) (Lib.byteCells (repsL s.data.toList q)) ∧ Below w.heap.size w wr) (fun _ i _ => n - (intOf i).toNat)
  case atStart => exact ⟨0, Nat.zero_le _, rfl, by rw [Nat.zero_mul]; exact HO.out.1, HO.out.2⟩
  case round =>
    obtain ⟨q, hq, rfl, hown, hbw⟩ := hrel
    by_cases hlt : q < n
    · have hlt' : (q : Int) < (n : Int) := by omega
      have hq2 : q * s.size + s.size ≤ 100000000 := by
        have := Nat.mul_le_mul (show q + 1 ≤ 100000 by omega) hs
        rw [Nat.succ_mul] at this
        omega
      have HB := Lib.hid hbw
      clear hbw
      go_wp2_with (at_builtin; refine Lib.wpList_append_own_string _ rfl _ _ 40 9 rfl w.heap.size 5 i0 HU Tryz.underlying9 hi hz0 hz1 hz2 _ _ _ rfl hown s rfl (by unfold maxLen; omega) (by omega) HB.out.size ?_; intro v2 w2 hown2 hgrow2 _; have X := Lib.hid (And.intro hown2 (Below.grown HB.out hgrow2 HB.out.size (fun k hk => (hown.lt k hk).1))); clear hown2 hgrow2)
      go_roundw
      case rel => exact ⟨q + 1, by omega, by go_num, by
        have h := X.out.1
        rw [Lib.strCells_eq] at h
        rw [Nat.succ_mul, repsL]
        simpa [Lib.byteCells] using h, X.out.2⟩
      case measure => simp [intOf]; omega
    · obtain rfl : q = n := by omega
      have hl : (repsL s.data.toList q).length = q * s.size := by rw [repsL_length]; simp
      rw [← hl] at hown
      have hcv := conv_own hown
      have HB := Lib.hid hbw
      clear hbw hown
      go_wp2_with fail
      go_ret
      exact ⟨rfl, HB.out⟩
end Go.Proofs.YtbhekkkijomglaaGreatDoor
