/- Put together: BldK, VtX, VtY, VtZ. -/
import Derived.Test.YtbhekkkijomglaaGreatDoorRdMZ
import Derived.Test.YtbhekkkijomglaaGreatDoorVspMZ
import Derived.Test.YtbhekkkijomglaaGreatDoorBldZ
import Derived.Test.YtbhekkkijomglaaGreatDoorValAZ
import Derived.Shelf.Strings.BuilderK
import Derived.Lib.BufferKept
import Derived.Lib.AppendIntMem
namespace Go.Proofs.YtbhekkkijomglaaGreatDoor
/-! The Builder's calls with their frame: all blocks but the builder and rows of bytes. -/
section
open Go.RowKit Go.Lib

theorem check_k (B b : Nat) (xs : List Value) (w : World) (h : Lib.IsBuilderF 62 5 B b xs w) :
    Calls Tryz.prog 68 #[.pointer (some ⟨b, 0, none⟩)] w fun e w' => e = .returned (.tuple #[]) ∧ (Lib.BuilderAtF 62 5 B b (.pointer (some ⟨b, 0, none⟩)) xs w' ∧ Below B w w' ∧ Lib.OthersKept 5 (some b) w w') := by
  rcases h with h | h
  · refine (check_fresh b w h.cell0 h.shape h.frozen0).mono ?_
    rintro e w' ⟨rfl, rfl⟩
    exact ⟨rfl, h.used _, (Below.refl B w).setCell (p := ⟨b, 0, none⟩) h.1 _, (Lib.OthersKept.refl _ _ w).setCell ⟨b, 0, none⟩ rfl _⟩
  · refine (check_used b w h.cell0).mono ?_
    rintro e w' ⟨rfl, rfl⟩
    exact ⟨rfl, h, Below.refl B _, Lib.OthersKept.refl _ _ _⟩

set_option maxHeartbeats 2000000 in
set_option maxRecDepth 100000 in
theorem write_k (B b : Nat) (xs : List Value) (s : ByteArray) (w : World) (h : Lib.IsBuilderF 62 5 B b xs w) (hlen : xs.length + s.size ≤ 140737488355328) (hBw : B ≤ w.heap.size) :
    Calls Tryz.prog 43 #[.pointer (some ⟨b, 0, none⟩), .string s] w fun e w' => e = .returned (.tuple #[.int .i64 s.size, .nilIface]) ∧ (Lib.BuilderAtF 62 5 B b (.pointer (some ⟨b, 0, none⟩)) (xs ++ Lib.strCells s) w' ∧ Below B w w' ∧ Lib.OthersKept 5 (some b) w w') := by
  obtain ⟨i0, hi, hz0, hz1, hz2⟩ := info_parts (Tryz.Builder_Extra_169).infoByte
  go_enter Tryz.func43, Tryz.ntmps43
  go_wp2_with fail
  refine (check_k B b xs _ h).mono ?_
  rintro e w1 ⟨rfl, h1, hb1, hk1⟩
  obtain ⟨hB, v, hbk, hown, hne⟩ := h1
  have c0 : w1.cell? ⟨b, 0, none⟩ = some (.pointer (some ⟨b, 0, none⟩)) := by rw [Lib.cell_of_heap hbk]; rfl
  have c1 : w1.cell? ⟨b, 1, none⟩ = some v := by rw [Lib.cell_of_heap hbk]; rfl
  go_wp2_with (at_builtin; refine Lib.wpList_append_own_stringF _ rfl _ _ 40 9 rfl B 5 i0 Tryz.underlying40 Tryz.underlying9 hi hz0 hz1 hz2 _ _ _ rfl hown s rfl ?c3 ?c4 ?c5 ?_)
  case c3 => unfold maxLen; omega
  case c4 => omega
  case c5 => have := hb1.size; omega
  intro v' w2 hown' hgrow _
  have hlt : b < w1.heap.size := by
    rcases Nat.lt_or_ge b w1.heap.size with h' | h'
    · exact h'
    · simp [Array.getElem?_eq_none h'] at hbk
  have hb2 : w2.heap[b]? = some (.cells #[.pointer (some ⟨b, 0, none⟩), v] 62 (0, 0)) := by
    rw [hgrow.block b hlt (fun e => hne e.symm)]
    exact hbk
  have d0 : w2.cell? ⟨b, 0, none⟩ = some (.pointer (some ⟨b, 0, none⟩)) := by rw [Lib.cell_of_heap hb2]; rfl
  have d1 : w2.cell? ⟨b, 1, none⟩ = some v := by rw [Lib.cell_of_heap hb2]; rfl
  have f1 : w2.frozen? ⟨b, 1, none⟩ = false := Lib.frozen_of_heap hb2 1
  obtain ⟨ao, n', cap, rfl⟩ : ∃ ao n' cap, v' = .slice ao n' cap := by
    rcases hown'.2 with ⟨hv, _⟩ | ⟨g, cap, cur, fz, hv, _⟩
    · exact ⟨_, _, _, hv⟩
    · exact ⟨_, _, _, hv⟩
  go_wp2
  go_ret2
  refine ⟨rfl, ?_, ?_, (hk1.grown hgrow (Lib.ownsRowF_kind hown)).setCell ⟨b, 1, none⟩ rfl _⟩
  · exact Lib.BuilderAtF.put (T := 62) (e := 5) hB hb2 (bs' := xs ++ Lib.strCells s) (by simpa [Lib.strCells_length] using hown') (by decide)
  · exact (hb1.grown hgrow (by have := hb1.size; omega) (fun k hk => (hown.lt k hk).1)).setCell (p := ⟨b, 1, none⟩) hB _
set_option maxHeartbeats 2000000 in
set_option maxRecDepth 100000 in
theorem writebyte_k (B b : Nat) (xs : List Value) (c : Int) (w : World) (h : Lib.IsBuilderF 62 5 B b xs w) (hlen : xs.length + 1 ≤ 140737488355328) (hBw : B ≤ w.heap.size) :
    Calls Tryz.prog 46 #[.pointer (some ⟨b, 0, none⟩), .int .u8 c] w fun e w' => e = .returned .nilIface ∧ (Lib.BuilderAtF 62 5 B b (.pointer (some ⟨b, 0, none⟩)) (xs ++ [.int .u8 c]) w' ∧ Below B w w' ∧ Lib.OthersKept 5 (some b) w w') := by
  obtain ⟨i0, hi, hz0, hz1, hz2⟩ := info_parts (Tryz.Builder_Extra_169).infoByte
  go_enter Tryz.func46, Tryz.ntmps46
  go_wp2_with fail
  refine (check_k B b xs _ h).mono ?_
  rintro e w1 ⟨rfl, h1, hb1, hk1⟩
  obtain ⟨hB, v, hbk, hown, hne⟩ := h1
  have c0 : w1.cell? ⟨b, 0, none⟩ = some (.pointer (some ⟨b, 0, none⟩)) := by rw [Lib.cell_of_heap hbk]; rfl
  have c1 : w1.cell? ⟨b, 1, none⟩ = some v := by rw [Lib.cell_of_heap hbk]; rfl
  go_wp2_with (at_builtin; refine wpList_append_ownF _ rfl _ _ 40 rfl B 5 i0 (.int .u8 0) 1 1 Tryz.underlying40 hi hz0 hz1 hz2 rfl (by decide) _ _ _ rfl (hown.alloc _) ⟨w1.heap.size, 0, none⟩ 1 1 [.int .u8 c] rfl rfl ?c1 ?c2 ?c3 ?c4 ?c5 ?_)
  case c1 =>
    intro j u hj
    match j, hj with
    | 0, hj => simp at hj; subst hj; simp [Addr.add]
  case c2 => intro u hu; simp at hu; subst hu; rfl
  case c3 => unfold maxLen; omega
  case c4 => omega
  case c5 => have := hb1.size; simp; omega
  intro v' w2 hown' hgrow _
  have hlt : b < w1.heap.size := by
    rcases Nat.lt_or_ge b w1.heap.size with h' | h'
    · exact h'
    · simp [Array.getElem?_eq_none h'] at hbk
  have hb2 : w2.heap[b]? = some (.cells #[.pointer (some ⟨b, 0, none⟩), v] 62 (0, 0)) := by
    rw [hgrow.block b (by simp; omega) (fun e => hne e.symm), Lib.alloc_old w1 _ b hlt]
    exact hbk
  have d0 : w2.cell? ⟨b, 0, none⟩ = some (.pointer (some ⟨b, 0, none⟩)) := by rw [Lib.cell_of_heap hb2]; rfl
  have d1 : w2.cell? ⟨b, 1, none⟩ = some v := by rw [Lib.cell_of_heap hb2]; rfl
  have f1 : w2.frozen? ⟨b, 1, none⟩ = false := Lib.frozen_of_heap hb2 1
  obtain ⟨ao, n', cap, rfl⟩ : ∃ ao n' cap, v' = .slice ao n' cap := by
    rcases hown'.2 with ⟨hv, _⟩ | ⟨g, cap, cur, fz, hv, _⟩
    · exact ⟨_, _, _, hv⟩
    · exact ⟨_, _, _, hv⟩
  go_wp2
  go_ret
  refine ⟨rfl, ?_, ?_, ((hk1.alloc _).grown hgrow (Lib.ownsRowF_kind (hown.alloc _))).setCell ⟨b, 1, none⟩ rfl _⟩
  · exact Lib.BuilderAtF.put (T := 62) (e := 5) hB hb2 (bs' := xs ++ [.int .u8 c]) (by simpa using hown') (by decide)
  · exact ((hb1.alloc (by have := hb1.size; omega) _).grown hgrow (by have := hb1.size; simp; omega) (fun k hk => (hown.lt k hk).1)).setCell (p := ⟨b, 1, none⟩) hB _
end

/-! The walk of write: a value's text. -/
section
open Go.RowKit

theorem bldAt_held {T e : TypeId} {B b : Nat} {p : Value} {xs : List Value} {W W' : World} (h : Lib.BuilderAtF T e B b p xs W) (hb : Below W.heap.size W W') : Lib.BuilderAtF T e B b p xs W' := by
  have hlt := h.lt
  obtain ⟨hB, v, hv, hown, hne⟩ := h
  exact ⟨hB, v, (hb.block b hlt).trans hv, hown.kept (row := none) ⟨hb.os, hb.tape, hb.output, hb.size, fun k hk _ => hb.block k hk⟩ (Classical.em _), hne⟩
theorem bld_held {T e : TypeId} {B b : Nat} {xs : List Value} {W W' : World} (h : Lib.IsBuilderF T e B b xs W) (hb : Below W.heap.size W W') : Lib.IsBuilderF T e B b xs W' :=
  h.elim (fun x => .inl (bldAt_held x hb)) (fun x => .inr (bldAt_held x hb))


set_option maxRecDepth 100000 in
set_option maxHeartbeats 1000000 in
theorem write_num (B b : Nat) (acc : List UInt8) (n : Int) (w : World) (hv : Env w) (hn : -1099511627776 ≤ n ∧ n ≤ 1099511627776) (hB : B ≤ w.heap.size) (hbl : Lib.IsBuilderF 62 5 B b (Lib.byteCells acc) w) (hl : acc.length + (Lib.itoa n).length ≤ 1000000000) (A : Option Addr) (c : Nat) :
    Calls Tryz.prog 31 #[.pointer (some ⟨b, 0, none⟩), .agg #[.int .u8 1, .int .i64 n, .slice A 0 c]] w fun e w' => e = .returned (.tuple #[]) ∧ (Lib.BuilderAtF 62 5 B b (.pointer (some ⟨b, 0, none⟩)) (Lib.byteCells (acc ++ Lib.itoa n)) w' ∧ Below B w w' ∧ Lib.OthersKept 5 (some b) w w') := by
  have hF := Tryz.strconv_FormatInt_10 n (by omega) (by omega) (w.alloc (.cells #[.int .u8 1, .int .i64 n, .slice A 0 c] 24)) (hv.alloc _).tab
  generalize Lib.itoa n = X at *
  have HB := Lib.hid hbl
  clear hbl
  go_enter Tryz.func31, Tryz.ntmps31
  go_wp2_with fail
  refine hF.mono ?_
  rintro e w1 ⟨rfl, k, os, hw1⟩
  have hb1 : Below w.heap.size w w1 := by rw [hw1]; exact ((Below.refl w.heap.size w).alloc (Nat.le_refl _) _).trans ((Lib.below_grow _ _ (Nat.le_refl _) _ _).mono (by simp))
  have hbl1 := bld_held HB.out hb1
  clear hw1 hF
  go_wp2_with fail
  refine (write_k B b _ (bs X) _ hbl1 (by rw [bs_size, Lib.byteCells_length]; omega) (Nat.le_trans hB hb1.size)).mono ?_
  rintro e w2 ⟨rfl, hB2, hb2, hk2⟩
  rw [Lib.strCells_eq, bs_list, show Lib.byteCells acc ++ Lib.byteCells X = Lib.byteCells (acc ++ X) by simp [Lib.byteCells]] at hB2
  have HX := Lib.hid (And.intro hB2 (And.intro ((hb1.mono hB).trans hb2) (((Lib.OthersKept.refl _ _ w).below hb1).trans hk2)))
  clear hB2 hb2 hk2 hbl1 hb1
  go_wp2_with fail
  exact bodyPost_ret (v := .tuple #[]) (results_none rfl _ _ _) rfl ⟨rfl, HX.out⟩
end

/-! The walk of write: truths. -/
section
open Go.RowKit

set_option maxRecDepth 100000 in
set_option maxHeartbeats 1000000 in
theorem write_bool0 (B b : Nat) (acc : List UInt8) (w : World) (hB : B ≤ w.heap.size) (hbl : Lib.IsBuilderF 62 5 B b (Lib.byteCells acc) w) (hl : acc.length ≤ 1000000000) (A : Option Addr) (c : Nat) :
    Calls Tryz.prog 31 #[.pointer (some ⟨b, 0, none⟩), .agg #[.int .u8 2, .int .i64 0, .slice A 0 c]] w fun e w' => e = .returned (.tuple #[]) ∧ (Lib.BuilderAtF 62 5 B b (.pointer (some ⟨b, 0, none⟩)) (Lib.byteCells (acc ++ [102, 97, 108, 115, 101])) w' ∧ Below B w w' ∧ Lib.OthersKept 5 (some b) w w') := by
  have HB := Lib.hid hbl
  clear hbl
  go_enter Tryz.func31, Tryz.ntmps31
  go_wp2_with fail
  refine (write_k B b _ (bs [102, 97, 108, 115, 101]) _ (bld_held HB.out (((Below.refl w.heap.size w).alloc (Nat.le_refl _) _).alloc (by simp) _)) (by rw [bs_size, Lib.byteCells_length]; simp; omega) (by simp; omega)).mono ?_
  rintro e w2 ⟨rfl, hB2, hb2, hk2⟩
  rw [Lib.strCells_eq, bs_list, show Lib.byteCells acc ++ Lib.byteCells [102, 97, 108, 115, 101] = Lib.byteCells (acc ++ [102, 97, 108, 115, 101]) by simp [Lib.byteCells]] at hB2
  have HX := Lib.hid (And.intro hB2 (And.intro ((((Below.refl B w).alloc hB _).alloc (by simp; omega) _).trans hb2) ((((Lib.OthersKept.refl _ _ w).alloc _).alloc _).trans hk2)))
  clear hB2 hb2 hk2
  go_wp2_with fail
  exact bodyPost_ret (v := .tuple #[]) (results_none rfl _ _ _) rfl ⟨rfl, HX.out⟩

set_option maxRecDepth 100000 in
set_option maxHeartbeats 1000000 in
theorem write_bool1 (B b : Nat) (acc : List UInt8) (w : World) (hB : B ≤ w.heap.size) (hbl : Lib.IsBuilderF 62 5 B b (Lib.byteCells acc) w) (hl : acc.length ≤ 1000000000) (A : Option Addr) (c : Nat) :
    Calls Tryz.prog 31 #[.pointer (some ⟨b, 0, none⟩), .agg #[.int .u8 2, .int .i64 1, .slice A 0 c]] w fun e w' => e = .returned (.tuple #[]) ∧ (Lib.BuilderAtF 62 5 B b (.pointer (some ⟨b, 0, none⟩)) (Lib.byteCells (acc ++ [116, 114, 117, 101])) w' ∧ Below B w w' ∧ Lib.OthersKept 5 (some b) w w') := by
  have HB := Lib.hid hbl
  clear hbl
  go_enter Tryz.func31, Tryz.ntmps31
  go_wp2_with fail
  refine (write_k B b _ (bs [116, 114, 117, 101]) _ (bld_held HB.out (((Below.refl w.heap.size w).alloc (Nat.le_refl _) _).alloc (by simp) _)) (by rw [bs_size, Lib.byteCells_length]; simp; omega) (by simp; omega)).mono ?_
  rintro e w2 ⟨rfl, hB2, hb2, hk2⟩
  rw [Lib.strCells_eq, bs_list, show Lib.byteCells acc ++ Lib.byteCells [116, 114, 117, 101] = Lib.byteCells (acc ++ [116, 114, 117, 101]) by simp [Lib.byteCells]] at hB2
  have HX := Lib.hid (And.intro hB2 (And.intro ((((Below.refl B w).alloc hB _).alloc (by simp; omega) _).trans hb2) ((((Lib.OthersKept.refl _ _ w).alloc _).alloc _).trans hk2)))
  clear hB2 hb2 hk2
  go_wp2_with fail
  exact bodyPost_ret (v := .tuple #[]) (results_none rfl _ _ _) rfl ⟨rfl, HX.out⟩
end

/-! The walk of write: every value. -/
section
open Go.RowKit

theorem first_node {k : Nat} {n : Int} {l : List V} (h : (V.mk k n l).first = 0) : nodeE k n l.length = 0 ∧ ∀ x ∈ l, x.first = 0 := by
  rw [V.first] at h
  by_cases h0 : nodeE k n l.length = 0
  · rw [if_neg (by simp [h0])] at h
    refine ⟨h0, ?_⟩
    clear h0
    induction l with
    | nil => intro x hx; cases hx
    | cons y r ih =>
      rw [V.firsts] at h
      by_cases hy : y.first = 0
      · rw [if_neg (by simp [hy])] at h
        intro x hx
        rcases List.mem_cons.1 hx with rfl | hx
        · exact hy
        · exact ih h x hx
      · rw [if_pos hy] at h; exact absurd h hy
  · rw [if_pos h0] at h; exact absurd h h0
end
end Go.Proofs.YtbhekkkijomglaaGreatDoor
