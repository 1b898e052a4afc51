/- The statement VtextBlanks, put together. -/
import Derived.Test.YtbhekkkijomglaaGreatDoorBlanksS
import Derived.Test.YtbhekkkijomglaaGreatDoorBlkA
namespace Go.Proofs.YtbhekkkijomglaaGreatDoor
open Go.RowKit

theorem more_end (s : ByteArray) (n : Nat) : (s ++ bs (repsL [10] n)).data.toList = s.data.toList.take s.data.toList.length ++ (List.replicate n 10 ++ s.data.toList.drop s.data.toList.length) := by
  rw [List.take_length, List.drop_length, List.append_nil, ← repsL_one]
  simp [bs]
theorem more_mid (s : ByteArray) (j n : Nat) (hj : j ≤ s.size) : (s.extract 0 j ++ bs (repsL [10] n) ++ s.extract j s.size).data.toList = s.data.toList.take j ++ (List.replicate n 10 ++ s.data.toList.drop j) := by
  have hl : s.data.toList.length = s.size := by simp
  have e : (s.data.toList.drop j).take (s.size - j) = s.data.toList.drop j := List.take_of_length_le (by rw [List.length_drop, hl]; omega)
  rw [bs_extract, bs_extract, bs_append, bs_append, bs_list, List.drop_zero, Nat.sub_zero, e, List.append_assoc, ← repsL_one]
theorem blank_ten (n : Nat) : (List.replicate n (10 : UInt8)).all blankB = true := by
  rw [List.all_eq_true]
  intro x hx
  rw [(List.mem_replicate.1 hx).2]
  rfl
theorem blanks_row (s : ByteArray) (which n : Int) (w : World) (hv : Env w) (_ : s.size ≤ 140737488351232) (hwb : 0 ≤ which ∧ which ≤ 65535) (hnb : 0 ≤ n ∧ n ≤ 255) :
    Calls Tryz.prog 10 #[.string s, .int .u16 which, .int .u8 n] w fun e w' => e = .returned (.bool true) ∧ Below w.heap.size w w' := by
  obtain ⟨n, rfl⟩ : ∃ m : Nat, n = (m : Int) := ⟨n.toNat, by omega⟩
  by_cases h20 : 20000 < s.size
  · exact blanks_wide s which n w hv h20
  have hls : s.data.toList.length = s.size := by simp
  obtain ⟨⟨xa, p, e⟩, hx⟩ : ∃ q, marks 0 s.data.toList = q := ⟨_, rfl⟩
  by_cases he : e = 0
  · subst he
    have hp := marks_ok (a := 0) (r := s.data.toList) (by rw [hx])
    rw [hx] at hp
    simp only at hp
    subst hp
    have hxl : xa.length ≤ 20000 := by
      have h := (marks_size s.data.toList 0).2
      rw [hx] at h
      simp only at h
      omega
    obtain ⟨k, hk⟩ : ∃ k : Nat, which.tmod ((xa.length : Int) + 1) = (k : Int) := ⟨(which.tmod ((xa.length : Int) + 1)).toNat, by have := Int.tmod_nonneg ((xa.length : Int) + 1) hwb.1; omega⟩
    have hklt : k < xa.length + 1 := by
      have := Int.tmod_lt_of_pos which (show (0 : Int) < (xa.length : Int) + 1 by omega)
      omega
    have hR := fun W hW => read_any s W (by omega) hW
    by_cases hkn : k = xa.length
    · have hA := ahead_marks s.data.toList 0 k s.data.toList.length (by rw [hx]) (.inl ⟨by rw [hx]; exact hkn, rfl⟩)
      have hR2 := fun W hW => read_any (s ++ bs (repsL [10] n)) W (by rw [ByteArray.size_append, bs_size, repsL_length]; simp; omega) hW
      rw [more_end] at hR2
      rcases readV_more s.data.toList (List.replicate n 10) s.data.toList.length (blank_ten n) hA (by rw [List.length_replicate]; omega) with ⟨v, m, r1, r2⟩ | ⟨p1, p2, e, r1, r2, hpp⟩
      · rw [r1] at hR
        rw [r2] at hR2
        have hsz := (check_first (read_back (by omega) r1).1).2.2
        exact blanks_end s which n w hv (by omega) hwb.1 hwb.2 (by omega) xa hx hxl k hk hkn v (by omega) (fun W hW => ⟨m, hR W hW⟩) (fun W hW => ⟨m, hR2 W hW⟩)
      · have hpl := readV_place r1
        rw [r1] at hR
        rw [r2] at hR2
        rw [List.length_replicate] at hpp
        exact blanks_end_bad s which n w hv (by omega) hwb.1 hwb.2 (by omega) xa hx hxl k hk hkn p1 p2 e (readV_why r1) (by omega) (by omega) hR hR2
    · have hkl : k < xa.length := by omega
      obtain ⟨mk, hm⟩ : ∃ mk, xa[k]? = some mk := ⟨xa[k], List.getElem?_eq_getElem hkl⟩
      have hA := ahead_marks s.data.toList 0 k mk.2.1 (by rw [hx]) (.inr ⟨mk, by rw [hx]; exact hm, by omega⟩)
      have hj : mk.2.1 ≤ s.size := by have := hA.le; omega
      have hR2 := fun W hW => read_any (s.extract 0 mk.2.1 ++ bs (repsL [10] n) ++ s.extract mk.2.1 s.size) W (by rw [ByteArray.size_append, ByteArray.size_append, bs_size, repsL_length, ByteArray.size_extract, ByteArray.size_extract]; simp; omega) hW
      rw [more_mid s mk.2.1 n hj] at hR2
      rcases readV_more s.data.toList (List.replicate n 10) mk.2.1 (blank_ten n) hA (by rw [List.length_replicate]; omega) with ⟨v, m, r1, r2⟩ | ⟨p1, p2, e, r1, r2, hpp⟩
      · rw [r1] at hR
        rw [r2] at hR2
        have hsz := (check_first (read_back (by omega) r1).1).2.2
        exact blanks_mid s which n w hv (by omega) hwb.1 hwb.2 (by omega) xa hx hxl k hk mk hm _ rfl hj v (by omega) (fun W hW => ⟨m, hR W hW⟩) (fun W hW => ⟨m, hR2 W hW⟩)
      · have hpl := readV_place r1
        rw [r1] at hR
        rw [r2] at hR2
        rw [List.length_replicate] at hpp
        exact blanks_mid_bad s which n w hv (by omega) hwb.1 hwb.2 (by omega) xa hx hxl k hk mk hm _ rfl hj p1 p2 e (readV_why r1) (by omega) (by omega) hR hR2
  · exact blanks_wrong s which n w hv (by omega) xa p e hx he
end Go.Proofs.YtbhekkkijomglaaGreatDoor
