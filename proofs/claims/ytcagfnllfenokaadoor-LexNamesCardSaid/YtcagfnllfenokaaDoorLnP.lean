/- The texts of LexNames: what is told of each. Plain. No program in sight. -/
import Derived.Test.YtcagfnllfenokaaDoorLexA
import Derived.Test.YtcagfnllfenokaaDoorLexJ
namespace Go.Proofs.YtcagfnllfenokaaDoor
open Go

/-- The texts of the table, their places, their errors. -/
def lnL : Nat → List UInt8
  | 0 => []
  | 1 => [32, 10, 32]
  | 2 => [97, 49]
  | 3 => [40, 49, 97]
  | 4 => [32, 48, 48, 55]
  | 5 => [45, 48]
  | 6 => [45]
  | 7 => [45, 45, 49]
  | 8 => [97, 98, 32, 45]
  | 9 => [65]
  | 10 => [97, 9]
  | 11 => [9, 98]
  | 12 => [35, 50]
  | 13 => [35, 35]
  | 14 => [35, 49, 97]
  | 15 => [43, 49]
  | 16 => [49, 45]
  | 17 => [97, 35, 49]
  | 18 => [57, 50, 50, 51, 51, 55, 50, 48, 51, 54, 56, 53, 52, 55, 55, 53, 56, 48, 55]
  | 19 => [57, 50, 50, 51, 51, 55, 50, 48, 51, 54, 56, 53, 52, 55, 55, 53, 56, 48, 56]
  | 20 => [45, 57, 50, 50, 51, 51, 55, 50, 48, 51, 54, 56, 53, 52, 55, 55, 53, 56, 48, 56]
  | 21 => [45, 57, 50, 50, 51, 51, 55, 50, 48, 51, 54, 56, 53, 52, 55, 55, 53, 56, 48, 57]
  | 22 => 35 :: List.replicate 1024 49
  | 23 => 97 :: 32 :: 35 :: (List.replicate 1024 49 ++ [48])
  | 24 => 35 :: (List.replicate 1024 49 ++ [48, 50])
  | 25 => [195]
  | 26 => [49, 32, 57, 97, 32, 56, 98]
  | 27 => [60, 97, 62, 35, 91, 49, 93]
  | _ => []
def lnP : Nat → Nat
  | 0 => 0
  | 1 => 0
  | 2 => 0
  | 3 => 1
  | 4 => 1
  | 5 => 0
  | 6 => 0
  | 7 => 0
  | 8 => 3
  | 9 => 0
  | 10 => 0
  | 11 => 0
  | 12 => 0
  | 13 => 0
  | 14 => 0
  | 15 => 0
  | 16 => 0
  | 17 => 0
  | 18 => 0
  | 19 => 0
  | 20 => 0
  | 21 => 0
  | 22 => 0
  | 23 => 2
  | 24 => 0
  | 25 => 0
  | 26 => 2
  | 27 => 0
  | _ => 0
def lnE : Nat → Nat
  | 0 => 0
  | 1 => 0
  | 2 => 3
  | 3 => 3
  | 4 => 3
  | 5 => 3
  | 6 => 3
  | 7 => 3
  | 8 => 3
  | 9 => 3
  | 10 => 3
  | 11 => 3
  | 12 => 3
  | 13 => 3
  | 14 => 3
  | 15 => 3
  | 16 => 3
  | 17 => 3
  | 18 => 0
  | 19 => 5
  | 20 => 0
  | 21 => 5
  | 22 => 0
  | 23 => 5
  | 24 => 3
  | 25 => 3
  | 26 => 3
  | 27 => 0
  | _ => 0
theorem ln0 : (lexAll ([])).2 = (0, 0) := by kernel_rfl
theorem ln1 : (lexAll ([32, 10, 32])).2 = (0, 0) := by kernel_rfl
theorem ln2 : (lexAll ([97, 49])).2 = (0, 3) := by kernel_rfl
theorem ln3 : (lexAll ([40, 49, 97])).2 = (1, 3) := by kernel_rfl
theorem ln4 : (lexAll ([32, 48, 48, 55])).2 = (1, 3) := by kernel_rfl
theorem ln5 : (lexAll ([45, 48])).2 = (0, 3) := by kernel_rfl
theorem ln6 : (lexAll ([45])).2 = (0, 3) := by kernel_rfl
theorem ln7 : (lexAll ([45, 45, 49])).2 = (0, 3) := by kernel_rfl
theorem ln8 : (lexAll ([97, 98, 32, 45])).2 = (3, 3) := by kernel_rfl
theorem ln9 : (lexAll ([65])).2 = (0, 3) := by kernel_rfl
theorem ln10 : (lexAll ([97, 9])).2 = (0, 3) := by kernel_rfl
theorem ln11 : (lexAll ([9, 98])).2 = (0, 3) := by kernel_rfl
theorem ln12 : (lexAll ([35, 50])).2 = (0, 3) := by kernel_rfl
theorem ln13 : (lexAll ([35, 35])).2 = (0, 3) := by kernel_rfl
theorem ln14 : (lexAll ([35, 49, 97])).2 = (0, 3) := by kernel_rfl
theorem ln15 : (lexAll ([43, 49])).2 = (0, 3) := by kernel_rfl
theorem ln16 : (lexAll ([49, 45])).2 = (0, 3) := by kernel_rfl
theorem ln17 : (lexAll ([97, 35, 49])).2 = (0, 3) := by kernel_rfl
theorem ln18 : (lexAll ([57, 50, 50, 51, 51, 55, 50, 48, 51, 54, 56, 53, 52, 55, 55, 53, 56, 48, 55])).2 = (0, 0) := by kernel_rfl
theorem ln19 : (lexAll ([57, 50, 50, 51, 51, 55, 50, 48, 51, 54, 56, 53, 52, 55, 55, 53, 56, 48, 56])).2 = (0, 5) := by kernel_rfl
theorem ln20 : (lexAll ([45, 57, 50, 50, 51, 51, 55, 50, 48, 51, 54, 56, 53, 52, 55, 55, 53, 56, 48, 56])).2 = (0, 0) := by kernel_rfl
theorem ln21 : (lexAll ([45, 57, 50, 50, 51, 51, 55, 50, 48, 51, 54, 56, 53, 52, 55, 55, 53, 56, 48, 57])).2 = (0, 5) := by kernel_rfl
theorem ln22 : (lexAll (35 :: List.replicate 1024 49)).2 = (0, 0) := by kernel_rfl
theorem ln23 : (lexAll (97 :: 32 :: 35 :: (List.replicate 1024 49 ++ [48]))).2 = (2, 5) := by kernel_rfl
theorem ln24 : (lexAll (35 :: (List.replicate 1024 49 ++ [48, 50]))).2 = (0, 3) := by kernel_rfl
theorem ln25 : (lexAll ([195])).2 = (0, 3) := by kernel_rfl
theorem ln26 : (lexAll ([49, 32, 57, 97, 32, 56, 98])).2 = (2, 3) := by kernel_rfl
theorem ln27 : (lexAll ([60, 97, 62, 35, 91, 49, 93])).2 = (0, 0) := by kernel_rfl
theorem ln_all : ∀ i, i < 28 → (lexAll (lnL i)).2 = (lnP i, lnE i) ∧ (lnL i).length ≤ 2000
  | 0, _ => ⟨ln0, by decide⟩
  | 1, _ => ⟨ln1, by decide⟩
  | 2, _ => ⟨ln2, by decide⟩
  | 3, _ => ⟨ln3, by decide⟩
  | 4, _ => ⟨ln4, by decide⟩
  | 5, _ => ⟨ln5, by decide⟩
  | 6, _ => ⟨ln6, by decide⟩
  | 7, _ => ⟨ln7, by decide⟩
  | 8, _ => ⟨ln8, by decide⟩
  | 9, _ => ⟨ln9, by decide⟩
  | 10, _ => ⟨ln10, by decide⟩
  | 11, _ => ⟨ln11, by decide⟩
  | 12, _ => ⟨ln12, by decide⟩
  | 13, _ => ⟨ln13, by decide⟩
  | 14, _ => ⟨ln14, by decide⟩
  | 15, _ => ⟨ln15, by decide⟩
  | 16, _ => ⟨ln16, by decide⟩
  | 17, _ => ⟨ln17, by decide⟩
  | 18, _ => ⟨ln18, by decide⟩
  | 19, _ => ⟨ln19, by decide⟩
  | 20, _ => ⟨ln20, by decide⟩
  | 21, _ => ⟨ln21, by decide⟩
  | 22, _ => ⟨ln22, by show (35 :: List.replicate 1024 49 : List UInt8).length ≤ 2000; simp only [List.length_cons, List.length_append, List.length_replicate, List.length_nil]; decide⟩
  | 23, _ => ⟨ln23, by show (97 :: 32 :: 35 :: (List.replicate 1024 49 ++ [48]) : List UInt8).length ≤ 2000; simp only [List.length_cons, List.length_append, List.length_replicate, List.length_nil]; decide⟩
  | 24, _ => ⟨ln24, by show (35 :: (List.replicate 1024 49 ++ [48, 50]) : List UInt8).length ≤ 2000; simp only [List.length_cons, List.length_append, List.length_replicate, List.length_nil]; decide⟩
  | 25, _ => ⟨ln25, by decide⟩
  | 26, _ => ⟨ln26, by decide⟩
  | 27, _ => ⟨ln27, by decide⟩
  | i + 28, h => absurd h (by omega)
theorem la1 : lexAll [40, 41, 91, 93, 60, 62, 97, 98, 45, 49, 35, 48, 49] = ([], 6, 3) := by kernel_rfl
theorem la2 : lexAll [40, 41, 91, 93, 60, 62, 97, 98, 40, 45, 49, 41, 35, 48, 49, 10] = ([(1, 0, 1, 0, []), (2, 1, 2, 0, []), (3, 2, 3, 0, []), (4, 3, 4, 0, []), (5, 4, 5, 0, []), (6, 5, 6, 0, []), (7, 6, 8, 0, [97, 98]), (1, 8, 9, 0, []), (8, 9, 11, -1, []), (2, 11, 12, 0, []), (9, 12, 15, 0, [48, 49])], 0, 0) := by kernel_rfl
theorem lx1 : lexNext [97, 98] 1 = ((7, 1, 2, 0, [98]), 0, 0) := by decide +kernel
theorem lx2 : lexNext [97, 98] 2 = ((10, 2, 2, 0, []), 0, 0) := by decide +kernel
theorem lx3 : lexNext [97, 98] 3 = ((0, 0, 0, 0, []), 0, 1) := by decide +kernel
theorem lx4 : lexNext [97, 98] (-1) = ((0, 0, 0, 0, []), 0, 1) := by decide +kernel
theorem lsh1 : lexShow 10 0 [] = ([], 3) := by decide +kernel
theorem lsh2 : lexShow 8 1 [49] = ([], 3) := by decide +kernel
abbrev brM : MarkZ := (1, 0, 0, 0, [])
theorem brM_show : markShow brM = ([40], 0) := by decide +kernel
theorem join_rep : ∀ (n k : Nat) (acc : List UInt8), 0 < k → ∃ t, t.length = acc.length + 2 * n ∧ joinGo k acc (List.replicate n brM) = if 65536 < acc.length + 2 * n then ([], 5) else (t, 0)
  | 0, k, acc, _ => ⟨acc, by omega, by rw [List.replicate, joinGo, Nat.mul_zero, Nat.add_zero]⟩
  | n + 1, k, acc, hk => by
    obtain ⟨t, ht, h⟩ := join_rep n (k + 1) ((acc ++ [32]) ++ [40]) (by omega)
    have hl : ((acc ++ [32]) ++ [40] : List UInt8).length = acc.length + 2 := by simp
    rw [hl, show acc.length + 2 + 2 * n = acc.length + 2 * (n + 1) by omega] at h
    refine ⟨t, by rw [ht, hl]; omega, ?_⟩
    rw [List.replicate_succ, joinGo, brM_show, if_neg (by simp), if_pos hk]
    exact h
theorem join_many (n : Nat) : ∃ t, t.length = 2 * n + 1 ∧ lexJoin (List.replicate (n + 1) brM) = if 65536 < 2 * n + 1 then ([], 5) else (t, 0) := by
  obtain ⟨t, ht, h⟩ := join_rep n 1 [40] (by decide)
  refine ⟨t, by rw [ht]; simp; omega, ?_⟩
  rw [lexJoin, List.replicate_succ, joinGo, brM_show, if_neg (by simp), if_neg (by decide)]
  have e : ([40] : List UInt8).length + 2 * n = 2 * n + 1 := by simp; omega
  rw [e] at h
  exact h
theorem join_far : lexJoin (List.replicate 32769 brM) = ([], 5) := by
  obtain ⟨t, _, h⟩ := join_many 32768
  rw [h, if_pos (by decide)]
theorem join_near : ∃ t, t.length = 65535 ∧ lexJoin (List.replicate 32768 brM) = (t, 0) := by
  obtain ⟨t, ht, h⟩ := join_many 32767
  exact ⟨t, ht, by rw [h, if_neg (by decide)]⟩
end Go.Proofs.YtcagfnllfenokaaDoor
