/- The texts of VtextNames: what is read of each. Plain. No program in sight. -/
import Derived.Test.YtbhekkkijomglaaGreatDoorTimesV
import Derived.Test.YtbhekkkijomglaaGreatDoorVtU
namespace Go.Proofs.YtbhekkkijomglaaGreatDoor
open Go

/-- Place and error. -/
def outP : PR V → Nat × Nat
  | .ok _ _ _ => (0, 0)
  | .bad p e => (p, e)
/-- The texts of the first table, their places, their errors. -/
def nmS : Nat → ByteArray
  | 0 => ⟨#[]⟩
  | 1 => ⟨#[32, 10]⟩
  | 2 => ⟨#[49, 48, 57, 57, 53, 49, 49, 54, 50, 55, 55, 55, 55]⟩
  | 3 => ⟨#[91, 45, 49, 48, 57, 57, 53, 49, 49, 54, 50, 55, 55, 55, 55, 32, 120]⟩
  | 4 => ⟨#[49, 32, 120]⟩
  | 5 => ⟨#[49, 32, 48, 48, 55]⟩
  | 6 => ⟨#[49, 32, 88]⟩
  | 7 => ⟨#[40]⟩
  | 8 => ⟨#[62]⟩
  | 9 => ⟨#[91, 49, 32, 62]⟩
  | 10 => ⟨#[60, 91, 49, 62, 93]⟩
  | 11 => ⟨#[91, 40, 49, 41, 93]⟩
  | 12 => ⟨#[91, 41]⟩
  | 13 => ⟨#[35, 48, 49]⟩
  | 14 => ⟨#[91, 116, 114, 117, 101]⟩
  | 15 => ⟨#[91, 116, 114, 117, 101, 32]⟩
  | 16 => ⟨#[91, 48, 48, 55]⟩
  | 17 => ⟨#[57, 57, 57, 57, 57, 57, 57, 57, 57, 57, 57, 57, 57, 57, 57, 57, 57, 57, 57, 57]⟩
  | 18 => (((⟨#[91]⟩ : ByteArray) ++ bs (repsL [48, 32] 64)) ++ (⟨#[93]⟩ : ByteArray))
  | 19 => (((⟨#[91]⟩ : ByteArray) ++ bs (repsL [48, 32] 64)) ++ (⟨#[55, 93]⟩ : ByteArray))
  | 20 => (((⟨#[91]⟩ : ByteArray) ++ bs (repsL [48, 32] 64)) ++ (⟨#[120, 93]⟩ : ByteArray))
  | 21 => (bs (repsL [91] 128) ++ bs (repsL [93] 128))
  | 22 => (bs (repsL [91] 128) ++ (⟨#[49]⟩ : ByteArray))
  | 23 => (bs (repsL [60] 129))
  | 24 => (bs (repsL [91] 128) ++ (⟨#[57, 57, 57, 57, 57, 57, 57, 57, 57, 57, 57, 57, 57]⟩ : ByteArray))
  | 25 => (bs (List.replicate 65537 0))
  | 26 => (bs (List.replicate 65536 0))
  | _ => ⟨#[]⟩
def nmP : Nat → Nat
  | 0 => 0
  | 1 => 2
  | 2 => 0
  | 3 => 1
  | 4 => 2
  | 5 => 2
  | 6 => 2
  | 7 => 0
  | 8 => 0
  | 9 => 3
  | 10 => 3
  | 11 => 1
  | 12 => 1
  | 13 => 0
  | 14 => 5
  | 15 => 6
  | 16 => 1
  | 17 => 0
  | 18 => 0
  | 19 => 129
  | 20 => 129
  | 21 => 0
  | 22 => 128
  | 23 => 128
  | 24 => 128
  | 25 => 0
  | 26 => 0
  | _ => 0
def nmE : Nat → Nat
  | 0 => 4
  | 1 => 4
  | 2 => 1
  | 3 => 1
  | 4 => 6
  | 5 => 3
  | 6 => 3
  | 7 => 3
  | 8 => 3
  | 9 => 3
  | 10 => 3
  | 11 => 3
  | 12 => 3
  | 13 => 3
  | 14 => 4
  | 15 => 4
  | 16 => 3
  | 17 => 5
  | 18 => 0
  | 19 => 5
  | 20 => 3
  | 21 => 0
  | 22 => 9
  | 23 => 9
  | 24 => 9
  | 25 => 5
  | 26 => 3
  | _ => 0
theorem bs_cat (a b : List UInt8) : (bs a ++ bs b) = bs (a ++ b) := bs_append a b
theorem nm0 : outP (readV []) = (0, 4) := by kernel_rfl
theorem nm1 : outP (readV [32, 10]) = (2, 4) := by kernel_rfl
theorem nm2 : outP (readV [49, 48, 57, 57, 53, 49, 49, 54, 50, 55, 55, 55, 55]) = (0, 1) := by kernel_rfl
theorem nm3 : outP (readV [91, 45, 49, 48, 57, 57, 53, 49, 49, 54, 50, 55, 55, 55, 55, 32, 120]) = (1, 1) := by kernel_rfl
theorem nm4 : outP (readV [49, 32, 120]) = (2, 6) := by kernel_rfl
theorem nm5 : outP (readV [49, 32, 48, 48, 55]) = (2, 3) := by kernel_rfl
theorem nm6 : outP (readV [49, 32, 88]) = (2, 3) := by kernel_rfl
theorem nm7 : outP (readV [40]) = (0, 3) := by kernel_rfl
theorem nm8 : outP (readV [62]) = (0, 3) := by kernel_rfl
theorem nm9 : outP (readV [91, 49, 32, 62]) = (3, 3) := by kernel_rfl
theorem nm10 : outP (readV [60, 91, 49, 62, 93]) = (3, 3) := by kernel_rfl
theorem nm11 : outP (readV [91, 40, 49, 41, 93]) = (1, 3) := by kernel_rfl
theorem nm12 : outP (readV [91, 41]) = (1, 3) := by kernel_rfl
theorem nm13 : outP (readV [35, 48, 49]) = (0, 3) := by kernel_rfl
theorem nm14 : outP (readV [91, 116, 114, 117, 101]) = (5, 4) := by kernel_rfl
theorem nm15 : outP (readV [91, 116, 114, 117, 101, 32]) = (6, 4) := by kernel_rfl
theorem nm16 : outP (readV [91, 48, 48, 55]) = (1, 3) := by kernel_rfl
theorem nm17 : outP (readV [57, 57, 57, 57, 57, 57, 57, 57, 57, 57, 57, 57, 57, 57, 57, 57, 57, 57, 57, 57]) = (0, 5) := by kernel_rfl
theorem nm18 : outP (readV (91 :: (repsL [48, 32] 64 ++ [93]))) = (0, 0) := by kernel_rfl
theorem nm19 : outP (readV (91 :: (repsL [48, 32] 64 ++ [55, 93]))) = (129, 5) := by kernel_rfl
theorem nm20 : outP (readV (91 :: (repsL [48, 32] 64 ++ [120, 93]))) = (129, 3) := by kernel_rfl
theorem nm21 : outP (readV (repsL [91] 128 ++ repsL [93] 128)) = (0, 0) := by kernel_rfl
theorem nm22 : outP (readV (repsL [91] 128 ++ [49])) = (128, 9) := by kernel_rfl
theorem nm23 : outP (readV (repsL [60] 129)) = (128, 9) := by kernel_rfl
theorem nm24 : outP (readV (repsL [91] 128 ++ [57, 57, 57, 57, 57, 57, 57, 57, 57, 57, 57, 57, 57])) = (128, 9) := by kernel_rfl
theorem nm25 : outP (readV (List.replicate 65537 0)) = (0, 5) := by
  unfold readV
  rw [List.length_replicate, if_pos (by decide)]
  rfl
theorem zeros_run (n : Nat) (h : 0 < n) : lexRun (List.replicate n 0) = bad 3 := by
  obtain ⟨m, rfl⟩ : ∃ m, n = m + 1 := ⟨n - 1, by omega⟩
  have e1 : (List.replicate (m + 1) (0 : UInt8)).headD 0 = 0 := rfl
  have e2 : lettersB (List.replicate (m + 1) 0) = false := by
    unfold lettersB
    rw [List.replicate_succ, List.all_cons]
    rfl
  unfold lexRun
  rw [e1, if_neg (by decide), e2, if_neg (by decide), if_neg (by decide), if_neg (by decide)]
theorem nm26 : outP (readV (List.replicate 65536 0)) = (0, 3) := by
  have hc : Cut (List.replicate 65536 (0 : UInt8)) [] := ⟨by rw [List.replicate_succ]; exact List.cons_ne_nil _ _, .inr ⟨fun c hc => by rw [List.eq_of_mem_replicate hc]; decide, Stops.nil⟩⟩
  have hx : nx (List.replicate 65536 0) 0 = (noMark, 0, 3) := by
    have h := rest_run 0 hc
    rw [List.append_nil, zeros_run _ (by decide)] at h
    unfold nx
    rw [List.drop_zero, h]
    rfl
  have hp : partV (List.replicate 65536 0) 0 = .bad 0 3 := by
    have h := partV_in (l := List.replicate 65536 (0 : UInt8)) (a := 0) (Nat.zero_le _)
    refine h.trans ?_
    rw [show fuelV (List.replicate 65536 (0 : UInt8)) = (2 * (List.replicate 65536 (0 : UInt8)).length + 1) + 1 from rfl, pval_e1 hx (by decide)]
  unfold readV
  rw [List.length_replicate, if_neg (by decide), hp]
  rfl
theorem cat_list (a b : ByteArray) : (a ++ b).data.toList = a.data.toList ++ b.data.toList := by simp
theorem nm_all : ∀ i, i < 27 → outP (readV (nmS i).data.toList) = (nmP i, nmE i) ∧ (nmS i).size ≤ 65537
  | 0, _ => ⟨nm0, by decide⟩
  | 1, _ => ⟨nm1, by decide⟩
  | 2, _ => ⟨nm2, by decide⟩
  | 3, _ => ⟨nm3, by decide⟩
  | 4, _ => ⟨nm4, by decide⟩
  | 5, _ => ⟨nm5, by decide⟩
  | 6, _ => ⟨nm6, by decide⟩
  | 7, _ => ⟨nm7, by decide⟩
  | 8, _ => ⟨nm8, by decide⟩
  | 9, _ => ⟨nm9, by decide⟩
  | 10, _ => ⟨nm10, by decide⟩
  | 11, _ => ⟨nm11, by decide⟩
  | 12, _ => ⟨nm12, by decide⟩
  | 13, _ => ⟨nm13, by decide⟩
  | 14, _ => ⟨nm14, by decide⟩
  | 15, _ => ⟨nm15, by decide⟩
  | 16, _ => ⟨nm16, by decide⟩
  | 17, _ => ⟨nm17, by decide⟩
  | 18, _ => ⟨by show outP (readV (((⟨#[91]⟩ : ByteArray) ++ bs (repsL [48, 32] 64)) ++ (⟨#[93]⟩ : ByteArray)).data.toList) = _; simp only [cat_list, bs_list]; exact nm18, by show (((⟨#[91]⟩ : ByteArray) ++ bs (repsL [48, 32] 64)) ++ (⟨#[93]⟩ : ByteArray)).size ≤ 65537; simp only [ByteArray.size_append, bs_size, repsL_length]; decide⟩
  | 19, _ => ⟨by show outP (readV (((⟨#[91]⟩ : ByteArray) ++ bs (repsL [48, 32] 64)) ++ (⟨#[55, 93]⟩ : ByteArray)).data.toList) = _; simp only [cat_list, bs_list]; exact nm19, by show (((⟨#[91]⟩ : ByteArray) ++ bs (repsL [48, 32] 64)) ++ (⟨#[55, 93]⟩ : ByteArray)).size ≤ 65537; simp only [ByteArray.size_append, bs_size, repsL_length]; decide⟩
  | 20, _ => ⟨by show outP (readV (((⟨#[91]⟩ : ByteArray) ++ bs (repsL [48, 32] 64)) ++ (⟨#[120, 93]⟩ : ByteArray)).data.toList) = _; simp only [cat_list, bs_list]; exact nm20, by show (((⟨#[91]⟩ : ByteArray) ++ bs (repsL [48, 32] 64)) ++ (⟨#[120, 93]⟩ : ByteArray)).size ≤ 65537; simp only [ByteArray.size_append, bs_size, repsL_length]; decide⟩
  | 21, _ => ⟨by show outP (readV (bs (repsL [91] 128) ++ bs (repsL [93] 128)).data.toList) = _; simp only [cat_list, bs_list]; exact nm21, by show (bs (repsL [91] 128) ++ bs (repsL [93] 128)).size ≤ 65537; simp only [ByteArray.size_append, bs_size, repsL_length]; decide⟩
  | 22, _ => ⟨by show outP (readV (bs (repsL [91] 128) ++ (⟨#[49]⟩ : ByteArray)).data.toList) = _; simp only [cat_list, bs_list]; exact nm22, by show (bs (repsL [91] 128) ++ (⟨#[49]⟩ : ByteArray)).size ≤ 65537; simp only [ByteArray.size_append, bs_size, repsL_length]; decide⟩
  | 23, _ => ⟨by show outP (readV (bs (repsL [60] 129)).data.toList) = _; simp only [cat_list, bs_list]; exact nm23, by show (bs (repsL [60] 129)).size ≤ 65537; simp only [ByteArray.size_append, bs_size, repsL_length]; decide⟩
  | 24, _ => ⟨by show outP (readV (bs (repsL [91] 128) ++ (⟨#[57, 57, 57, 57, 57, 57, 57, 57, 57, 57, 57, 57, 57]⟩ : ByteArray)).data.toList) = _; simp only [cat_list, bs_list]; exact nm24, by show (bs (repsL [91] 128) ++ (⟨#[57, 57, 57, 57, 57, 57, 57, 57, 57, 57, 57, 57, 57]⟩ : ByteArray)).size ≤ 65537; simp only [ByteArray.size_append, bs_size, repsL_length]; decide⟩
  | 25, _ => ⟨by show outP (readV (bs (List.replicate 65537 0)).data.toList) = _; rw [bs_list]; exact nm25, by show (bs (List.replicate 65537 0)).size ≤ 65537; rw [bs_size, List.length_replicate]; decide⟩
  | 26, _ => ⟨by show outP (readV (bs (List.replicate 65536 0)).data.toList) = _; rw [bs_list]; exact nm26, by show (bs (List.replicate 65536 0)).size ≤ 65537; rw [bs_size, List.length_replicate]; decide⟩
  | i + 27, h => by omega
/-- The texts of the second table, and their values. -/
def nmT : Nat → List UInt8
  | 0 => [116, 114, 117, 101]
  | 1 => [102, 97, 108, 115, 101]
  | 2 => [48]
  | 3 => [45, 53]
  | 4 => [60, 62]
  | 5 => [91, 93]
  | 6 => [91, 60, 62, 32, 91, 93, 32, 60, 91, 93, 62, 93]
  | 7 => [49, 48, 57, 57, 53, 49, 49, 54, 50, 55, 55, 55, 54]
  | 8 => [45, 49, 48, 57, 57, 53, 49, 49, 54, 50, 55, 55, 55, 54]
  | _ => []
def nmV : Nat → V
  | 0 => .mk 2 1 []
  | 1 => .mk 2 0 []
  | 2 => .mk 1 0 []
  | 3 => .mk 1 (-5) []
  | 4 => .mk 3 0 []
  | 5 => .mk 4 0 []
  | 6 => .mk 4 0 [.mk 3 0 [], .mk 4 0 [], .mk 3 0 [.mk 4 0 []]]
  | 7 => .mk 1 1099511627776 []
  | 8 => .mk 1 (-1099511627776) []
  | _ => .mk 0 0 []
theorem nt0 : readV [116, 114, 117, 101] = .ok (.mk 2 1 []) 0 1 := by kernel_rfl
theorem ns0 : showV (.mk 2 1 []) = ([116, 114, 117, 101], 0) := by kernel_rfl
theorem nt1 : readV [102, 97, 108, 115, 101] = .ok (.mk 2 0 []) 0 1 := by kernel_rfl
theorem ns1 : showV (.mk 2 0 []) = ([102, 97, 108, 115, 101], 0) := by kernel_rfl
theorem nt2 : readV [48] = .ok (.mk 1 0 []) 0 1 := by kernel_rfl
theorem ns2 : showV (.mk 1 0 []) = ([48], 0) := by kernel_rfl
theorem nt3 : readV [45, 53] = .ok (.mk 1 (-5) []) 0 1 := by kernel_rfl
theorem ns3 : showV (.mk 1 (-5) []) = ([45, 53], 0) := by kernel_rfl
theorem nt4 : readV [60, 62] = .ok (.mk 3 0 []) 0 1 := by kernel_rfl
theorem ns4 : showV (.mk 3 0 []) = ([60, 62], 0) := by kernel_rfl
theorem nt5 : readV [91, 93] = .ok (.mk 4 0 []) 0 1 := by kernel_rfl
theorem ns5 : showV (.mk 4 0 []) = ([91, 93], 0) := by kernel_rfl
theorem nt6 : readV [91, 60, 62, 32, 91, 93, 32, 60, 91, 93, 62, 93] = .ok (.mk 4 0 [.mk 3 0 [], .mk 4 0 [], .mk 3 0 [.mk 4 0 []]]) 0 5 := by kernel_rfl
theorem ns6 : showV (.mk 4 0 [.mk 3 0 [], .mk 4 0 [], .mk 3 0 [.mk 4 0 []]]) = ([91, 60, 62, 32, 91, 93, 32, 60, 91, 93, 62, 93], 0) := by kernel_rfl
theorem nt7 : readV [49, 48, 57, 57, 53, 49, 49, 54, 50, 55, 55, 55, 54] = .ok (.mk 1 1099511627776 []) 0 1 := by kernel_rfl
theorem ns7 : showV (.mk 1 1099511627776 []) = ([49, 48, 57, 57, 53, 49, 49, 54, 50, 55, 55, 55, 54], 0) := by kernel_rfl
theorem nt8 : readV [45, 49, 48, 57, 57, 53, 49, 49, 54, 50, 55, 55, 55, 54] = .ok (.mk 1 (-1099511627776) []) 0 1 := by kernel_rfl
theorem ns8 : showV (.mk 1 (-1099511627776) []) = ([45, 49, 48, 57, 57, 53, 49, 49, 54, 50, 55, 55, 55, 54], 0) := by kernel_rfl
theorem nt_all : ∀ i, i < 9 → (∃ m, readV (nmT i) = .ok (nmV i) 0 m) ∧ showV (nmV i) = (nmT i, 0) ∧ (nmV i).size ≤ 1000 ∧ (nmT i).length ≤ 1000
  | 0, _ => ⟨⟨_, nt0⟩, ns0, by decide +kernel, by decide⟩
  | 1, _ => ⟨⟨_, nt1⟩, ns1, by decide +kernel, by decide⟩
  | 2, _ => ⟨⟨_, nt2⟩, ns2, by decide +kernel, by decide⟩
  | 3, _ => ⟨⟨_, nt3⟩, ns3, by decide +kernel, by decide⟩
  | 4, _ => ⟨⟨_, nt4⟩, ns4, by decide +kernel, by decide⟩
  | 5, _ => ⟨⟨_, nt5⟩, ns5, by decide +kernel, by decide⟩
  | 6, _ => ⟨⟨_, nt6⟩, ns6, by decide +kernel, by decide⟩
  | 7, _ => ⟨⟨_, nt7⟩, ns7, by decide +kernel, by decide⟩
  | 8, _ => ⟨⟨_, nt8⟩, ns8, by decide +kernel, by decide⟩
  | i + 9, h => by omega
theorem nsa : showV (.mk 0 0 []) = ([], 11) := by kernel_rfl
theorem nsb : showV (.mk 1 1099511627777 []) = ([], 1) := by kernel_rfl
theorem npa : partV [49] 2 = .bad 0 1 := by kernel_rfl
theorem npb : partV [49] (-1) = .bad 0 1 := by kernel_rfl
theorem npc : partV [97, 32, 55, 93] 1 = .ok (.mk 1 7 []) 3 1 := by kernel_rfl
theorem npd : partV [55] 1 = .bad 1 4 := by kernel_rfl
end Go.Proofs.YtbhekkkijomglaaGreatDoor
