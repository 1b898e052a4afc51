/- Put together: VtX, VtY, VtZ. -/
import Derived.Test.YtbhekkkijomglaaGreatDoorVtW
import Derived.Test.YtbhekkkijomglaaGreatDoorBldA
import Derived.Test.YtbhekkkijomglaaGreatDoorLexS
import Derived.Test.YtbhekkkijomglaaGreatDoorValA
import Derived.Lib.BufferKept
import Derived.Lib.AppendIntMem
namespace Go.Proofs.YtbhekkkijomglaaGreatDoor
/-! The walk of write: a value's text. -/
section
open Go.RowKit

theorem bldAt_held {T e : TypeId} {B b : Nat} {p : Value} {xs : List Value} {W W' : World} (h : Lib.BuilderAtF T e B b p xs W) (hb : Below W.heap.size W W') : Lib.BuilderAtF T e B b p xs W' := by
  have hlt := h.lt
  obtain ⟨hB, v, hv, hown, hne⟩ := h
  exact ⟨hB, v, (hb.block b hlt).trans hv, hown.kept (row := none) ⟨hb.os, hb.tape, hb.output, hb.size, fun k hk _ => hb.block k hk⟩ (Classical.em _), hne⟩
theorem bld_held {T e : TypeId} {B b : Nat} {xs : List Value} {W W' : World} (h : Lib.IsBuilderF T e B b xs W) (hb : Below W.heap.size W W') : Lib.IsBuilderF T e B b xs W' :=
  h.elim (fun x => .inl (bldAt_held x hb)) (fun x => .inr (bldAt_held x hb))


set_option maxRecDepth 100000 in
set_option maxHeartbeats 1000000 in
theorem write_num (B b : Nat) (acc : List UInt8) (n : Int) (w : World) (hv : Env w) (hn : -1099511627776 ≤ n ∧ n ≤ 1099511627776) (hB : B ≤ w.heap.size) (hbl : Lib.IsBuilderF 62 5 B b (Lib.byteCells acc) w) (hl : acc.length + (Lib.itoa n).length ≤ 1000000000) (A : Option Addr) (c : Nat) :
    Calls Tryz.prog 31 #[.pointer (some ⟨b, 0, none⟩), .agg #[.int .u8 1, .int .i64 n, .slice A 0 c]] w fun e w' => e = .returned (.tuple #[]) ∧ (Lib.BuilderAtF 62 5 B b (.pointer (some ⟨b, 0, none⟩)) (Lib.byteCells (acc ++ Lib.itoa n)) w' ∧ Below B w w' ∧ Lib.OthersKept 5 (some b) w w') := by
  have hF := Tryz.strconv_FormatInt_10 n (by omega) (by omega) (w.alloc (.cells #[.int .u8 1, .int .i64 n, .slice A 0 c] 24)) (hv.alloc _).tab
  generalize Lib.itoa n = X at *
  have HB := Lib.hid hbl
  clear hbl
  go_enter Tryz.func31, Tryz.ntmps31
  go_wp2_with fail
  refine hF.mono ?_
  rintro e w1 ⟨rfl, k, os, hw1⟩
  have hb1 : Below w.heap.size w w1 := by rw [hw1]; exact ((Below.refl w.heap.size w).alloc (Nat.le_refl _) _).trans ((Lib.below_grow _ _ (Nat.le_refl _) _ _).mono (by simp))
  have hbl1 := bld_held HB.out hb1
  clear hw1 hF
  go_wp2_with fail
  refine (write_k B b _ (bs X) _ hbl1 (by rw [bs_size, Lib.byteCells_length]; omega) (Nat.le_trans hB hb1.size)).mono ?_
  rintro e w2 ⟨rfl, hB2, hb2, hk2⟩
  rw [Lib.strCells_eq, bs_list, show Lib.byteCells acc ++ Lib.byteCells X = Lib.byteCells (acc ++ X) by simp [Lib.byteCells]] at hB2
  have HX := Lib.hid (And.intro hB2 (And.intro ((hb1.mono hB).trans hb2) (((Lib.OthersKept.refl _ _ w).below hb1).trans hk2)))
  clear hB2 hb2 hk2 hbl1 hb1
  go_wp2_with fail
  exact bodyPost_ret (v := .tuple #[]) (results_none rfl _ _ _) rfl ⟨rfl, HX.out⟩
end

/-! The walk of write: truths. -/
section
open Go.RowKit

set_option maxRecDepth 100000 in
set_option maxHeartbeats 1000000 in
theorem write_bool0 (B b : Nat) (acc : List UInt8) (w : World) (hB : B ≤ w.heap.size) (hbl : Lib.IsBuilderF 62 5 B b (Lib.byteCells acc) w) (hl : acc.length ≤ 1000000000) (A : Option Addr) (c : Nat) :
    Calls Tryz.prog 31 #[.pointer (some ⟨b, 0, none⟩), .agg #[.int .u8 2, .int .i64 0, .slice A 0 c]] w fun e w' => e = .returned (.tuple #[]) ∧ (Lib.BuilderAtF 62 5 B b (.pointer (some ⟨b, 0, none⟩)) (Lib.byteCells (acc ++ [102, 97, 108, 115, 101])) w' ∧ Below B w w' ∧ Lib.OthersKept 5 (some b) w w') := by
  have HB := Lib.hid hbl
  clear hbl
  go_enter Tryz.func31, Tryz.ntmps31
  go_wp2_with fail
  refine (write_k B b _ (bs [102, 97, 108, 115, 101]) _ (bld_held HB.out (((Below.refl w.heap.size w).alloc (Nat.le_refl _) _).alloc (by simp) _)) (by rw [bs_size, Lib.byteCells_length]; simp; omega) (by simp; omega)).mono ?_
  rintro e w2 ⟨rfl, hB2, hb2, hk2⟩
  rw [Lib.strCells_eq, bs_list, show Lib.byteCells acc ++ Lib.byteCells [102, 97, 108, 115, 101] = Lib.byteCells (acc ++ [102, 97, 108, 115, 101]) by simp [Lib.byteCells]] at hB2
  have HX := Lib.hid (And.intro hB2 (And.intro ((((Below.refl B w).alloc hB _).alloc (by simp; omega) _).trans hb2) ((((Lib.OthersKept.refl _ _ w).alloc _).alloc _).trans hk2)))
  clear hB2 hb2 hk2
  go_wp2_with fail
  exact bodyPost_ret (v := .tuple #[]) (results_none rfl _ _ _) rfl ⟨rfl, HX.out⟩

set_option maxRecDepth 100000 in
set_option maxHeartbeats 1000000 in
theorem write_bool1 (B b : Nat) (acc : List UInt8) (w : World) (hB : B ≤ w.heap.size) (hbl : Lib.IsBuilderF 62 5 B b (Lib.byteCells acc) w) (hl : acc.length ≤ 1000000000) (A : Option Addr) (c : Nat) :
    Calls Tryz.prog 31 #[.pointer (some ⟨b, 0, none⟩), .agg #[.int .u8 2, .int .i64 1, .slice A 0 c]] w fun e w' => e = .returned (.tuple #[]) ∧ (Lib.BuilderAtF 62 5 B b (.pointer (some ⟨b, 0, none⟩)) (Lib.byteCells (acc ++ [116, 114, 117, 101])) w' ∧ Below B w w' ∧ Lib.OthersKept 5 (some b) w w') := by
  have HB := Lib.hid hbl
  clear hbl
  go_enter Tryz.func31, Tryz.ntmps31
  go_wp2_with fail
  refine (write_k B b _ (bs [116, 114, 117, 101]) _ (bld_held HB.out (((Below.refl w.heap.size w).alloc (Nat.le_refl _) _).alloc (by simp) _)) (by rw [bs_size, Lib.byteCells_length]; simp; omega) (by simp; omega)).mono ?_
  rintro e w2 ⟨rfl, hB2, hb2, hk2⟩
  rw [Lib.strCells_eq, bs_list, show Lib.byteCells acc ++ Lib.byteCells [116, 114, 117, 101] = Lib.byteCells (acc ++ [116, 114, 117, 101]) by simp [Lib.byteCells]] at hB2
  have HX := Lib.hid (And.intro hB2 (And.intro ((((Below.refl B w).alloc hB _).alloc (by simp; omega) _).trans hb2) ((((Lib.OthersKept.refl _ _ w).alloc _).alloc _).trans hk2)))
  clear hB2 hb2 hk2
  go_wp2_with fail
  exact bodyPost_ret (v := .tuple #[]) (results_none rfl _ _ _) rfl ⟨rfl, HX.out⟩
end

/-! The walk of write: every value. -/
section
open Go.RowKit

theorem first_node {k : Nat} {n : Int} {l : List V} (h : (V.mk k n l).first = 0) : nodeE k n l.length = 0 ∧ ∀ x ∈ l, x.first = 0 := by
  rw [V.first] at h
  by_cases h0 : nodeE k n l.length = 0
  · rw [if_neg (by simp [h0])] at h
    refine ⟨h0, ?_⟩
    clear h0
    induction l with
    | nil => intro x hx; cases hx
    | cons y r ih =>
      rw [V.firsts] at h
      by_cases hy : y.first = 0
      · rw [if_neg (by simp [hy])] at h
        intro x hx
        rcases List.mem_cons.1 hx with rfl | hx
        · exact hy
        · exact ih h x hx
      · rw [if_pos hy] at h; exact absurd h hy
  · rw [if_pos h0] at h; exact absurd h h0
end
end Go.Proofs.YtbhekkkijomglaaGreatDoor
