/- The walk of the reference's Read (a natural's decimal numeral). -/
import Derived.Test.YtckmhbgpaiocbaaGreatDoorRefD
import Derived.Test.YtckmhbgpaiocbaaGreatDoorNum
import Derived.Test.YtckmhbgpaiocbaaGreatDoorLexW1
namespace Go.Proofs.YtckmhbgpaiocbaaGreatDoor
open Go.RowKit

/-- The error, and the number. -/
def read4 (l : List UInt8) : Nat × Nat :=
  if l = [] then (4, 0) else if l.all digB = false then (3, 0) else if l.head? = some 48 ∧ 1 < l.length then (3, 0) else (0, decVal 0 l)
/-- What it returns. -/
def Read4 (w : World) (x : Nat × Nat) (e : Ending) (w' : World) : Prop :=
  ∃ A c, e = .returned (.tuple #[.slice A (dgs (65536 ^ 4) x.2).length c, .int .i64 x.1]) ∧ Nsl w' A (dgs (65536 ^ 4) x.2) ∧ Below w.heap.size w w'
theorem Read4.err (w : World) (n : Nat) : Read4 w (n, 0) (.returned (.tuple #[.slice none 0 0, .int .i64 n])) w :=
  ⟨none, 0, by rw [show dgs (65536 ^ 4) (n, 0).2 = [] from dgs_zero _]; rfl, by rw [show dgs (65536 ^ 4) (n, 0).2 = [] from dgs_zero _]; exact Nsl.nil _ _, Below.refl _ _⟩
theorem set_mid (pre rest : List Nat) (x z : Nat) : (uCells (pre ++ x :: rest)).set pre.length (.int .u64 (z : Nat)) = uCells ((pre ++ [z]) ++ rest) := by
  rw [uCells_append, List.set_append_right _ _ (by rw [uCells_length]; exact Nat.le_refl _), uCells_length, Nat.sub_self, List.append_assoc, uCells_append]
  rfl
theorem dig_byte (b : UInt8) (h : digB b = true) : 48 ≤ (b.toNat : Int) ∧ (b.toNat : Int) ≤ 57 := by
  have := (dig_iff b).1 h
  omega
theorem data_get (s : ByteArray) (k : Nat) (h : k < s.size) : s.data.toList[k]? = some s[k] := by
  rw [List.getElem?_eq_getElem (by simpa using h)]; rfl

set_option maxRecDepth 100000 in
set_option maxHeartbeats 2000000 in
theorem read4_bad (s : ByteArray) (w : World) (hs : s.size ≤ 20000) (h : (read4 s.data.toList).1 ≠ 0) :
    Calls Tryz.prog 75 #[.string s] w (Read4 w (read4 s.data.toList)) := by
  have hl : s.data.toList.length = s.size := by simp
  obtain ⟨P, hP⟩ : ∃ P, P = Read4 w (read4 s.data.toList) := ⟨_, rfl⟩
  rw [← hP]
  by_cases h0 : s.data.toList = []
  · have hr : read4 s.data.toList = (4, 0) := by rw [read4, if_pos h0]
    have hz : s.size = 0 := by rw [← hl, h0]; rfl
    have HE := Lib.hid (hP.trans (congrArg (Read4 w) hr))
    clear hP hr h h0 hl
    have hz1 : ((s.size : Int) == 0) = true := beq_iff_eq.2 (by omega)
    clear hz
    go_enter Tryz.func75, Tryz.ntmps75
    go_wp2_with fail
    rw [HE.out]
    exact Read4.err w 4
  · have hpos : 0 < s.size := by
      rcases Nat.eq_zero_or_pos s.size with hz | hz
      · exact absurd (List.length_eq_zero_iff.1 (by rw [hl]; exact hz)) h0
      · exact hz
    have hz1 : ((s.size : Int) == 0) = false := beq_eq_false_iff_ne.2 (by omega)
    by_cases hall : s.data.toList.all digB = false
    · have hr : read4 s.data.toList = (3, 0) := by rw [read4, if_neg h0, if_pos hall]
      have HE := Lib.hid (hP.trans (congrArg (Read4 w) hr))
      have HALL := Lib.hid hall
      clear hP hr h h0 hl hall
      go_enter Tryz.func75, Tryz.ntmps75
      go_wp2_with fail
      go_loop [4] (fun i => ∃ k : Nat, k ≤ s.size ∧ i = .int .i64 k ∧ Hid ((s.data.toList.take k).all digB = true)) (fun i => s.size - (intOf i).toNat)
      case atStart => exact ⟨0, Nat.zero_le _, rfl, rfl⟩
      case round =>
        obtain ⟨k, hk, rfl, HA⟩ := hrel
        by_cases hlt : k < s.size
        · by_cases hd : digB s[k] = true
          · obtain ⟨d1, d2⟩ := dig_byte _ hd
            go_wp2_with fail
            go_round
            case rel => exact ⟨k + 1, by omega, by go_num, all_take_succ digB s k hlt HA.out hd⟩
            case measure => simp [intOf] <;> omega
          · have hd2 : digB s[k] = false := by simpa using hd
            have hd3 : (s[k].toNat : Int) < 48 ∨ 57 < (s[k].toNat : Int) := by
              have h9 : ¬ (48 ≤ s[k].toNat ∧ s[k].toNat ≤ 57) := fun e => hd ((dig_iff _).2 e)
              omega
            rcases hd3 with hd3 | hd3
            all_goals
              go_wp2_with fail
              rw [HE.out]
              exact Read4.err w 3
        · exfalso
          obtain rfl : k = s.size := by omega
          have := all_done digB s HA.out
          rw [HALL.out] at this
          cases this
    · have hall2 : s.data.toList.all digB = true := by simpa using hall
      have hlz : s.data.toList.head? = some 48 ∧ 1 < s.data.toList.length := by
        rcases Classical.em (s.data.toList.head? = some 48 ∧ 1 < s.data.toList.length) with h1 | h1
        · exact h1
        · exfalso
          apply h
          rw [read4, if_neg h0, if_neg hall, if_neg h1]
      have hr : read4 s.data.toList = (3, 0) := by rw [read4, if_neg h0, if_neg hall, if_pos hlz]
      have HE := Lib.hid (hP.trans (congrArg (Read4 w) hr))
      have hD : ∀ k, (hk : k < s.size) → digB s[k] = true := fun k hk => List.all_eq_true.1 hall2 _ (List.mem_of_getElem? (data_get s k hk))
      have HD := Lib.hid hD
      have h48 : ((s[0].toNat : Int) == 48) = true := by
        have h1 := hlz.1
        rw [List.head?_eq_getElem?, data_get s 0 hpos] at h1
        rw [Option.some.inj h1]
        rfl
      have hl1 : (1 : Int) < (s.size : Int) := by have := hlz.2; omega
      clear hP hr h h0 hl hall hall2 hD hlz
      go_enter Tryz.func75, Tryz.ntmps75
      go_wp2_with fail
      go_loop [4] (fun i => ∃ k : Nat, k ≤ s.size ∧ i = .int .i64 k) (fun i => s.size - (intOf i).toNat)
      case atStart => exact ⟨0, Nat.zero_le _, rfl⟩
      case round =>
        obtain ⟨k, hk, rfl⟩ := hrel
        by_cases hlt : k < s.size
        · obtain ⟨d1, d2⟩ := dig_byte _ (HD.out k hlt)
          go_wp2_with fail
          go_round
          case rel => exact ⟨k + 1, by omega, by go_num⟩
          case measure => simp [intOf] <;> omega
        · obtain rfl : k = s.size := by omega
          go_wp2_with fail
          rw [HE.out]
          exact Read4.err w 3
end Go.Proofs.YtckmhbgpaiocbaaGreatDoor
