/- Put together: RtF, ValB, VtW. -/
import Derived.Test.YtbhekkkijomglaaGreatDoorVspMZ
import Derived.Test.YtbhekkkijomglaaGreatDoorVtU
import Derived.Test.YtbhekkkijomglaaGreatDoorValMZ
namespace Go.Proofs.YtbhekkkijomglaaGreatDoor
/-! The reference's value: what is read; a row that is read. -/
section
open Go.RowKit

/-- A value is read. -/
def TOk (s : ByteArray) (g : Nat) (v : V) (a m : Nat) (w : World) (en : Ending) (w' : World) : Prop :=
  ∃ A c, en = .returned (.agg #[.int .u8 v.k, .int .i64 v.n, .slice A v.l.length c]) ∧ TxB w' g s a m 0 0 ∧ w.grownBy w' (some g) ∧ Vsp w' (Fr w.heap.size w') A v.l
theorem Sv.good {w W : World} {g M V9 : Nat} {s : ByteArray} {kk b d : Nat} {n : Int} {l : List UInt8} {bk : Nat} {bn : Int} {m : Int} (h : Sv w W g M V9 s kk b d n l bk bn m 0) (u v x : Value) :
    TxB (((W.setCell ⟨w.heap.size, 0, none⟩ u).setCell ⟨w.heap.size, 1, none⟩ v).setCell ⟨w.heap.size, 2, none⟩ x) g s d m 0 0 ∧ w.grownBy (((W.setCell ⟨w.heap.size, 0, none⟩ u).setCell ⟨w.heap.size, 1, none⟩ v).setCell ⟨w.heap.size, 2, none⟩ x) (some g) := by
  have hr := h.hr
  have hT := h.kT
  rw [if_pos rfl] at hT
  have e0 : ∀ i, g ≠ (⟨w.heap.size, i, none⟩ : Addr).block := fun i => by show g ≠ w.heap.size; omega
  have e1 : ∀ i, (⟨w.heap.size, i, none⟩ : Addr).block = g ∨ w.heap.size ≤ (⟨w.heap.size, i, none⟩ : Addr).block := fun i => .inr (Nat.le_refl _)
  exact ⟨((hT.far (e0 0) _).far (e0 1) _).far (e0 2) _, only_setCell (only_setCell (only_setCell h.g0 (e1 0) _) (e1 1) _) (e1 2) _⟩

def TPost (R : PR V) (s : ByteArray) (g : Nat) (w : World) (en : Ending) (w' : World) : Prop :=
  match R with
  | .ok v a m => TOk s g v a m w en w'
  | .bad p e => TBad s g p e w en w'
/-- What the reference's value does, so much fuel given. -/
def TV (f : Nat) : Prop := ∀ (s : ByteArray) (a m deep item g : Nat) (w : World), s.size ≤ 20000 → a ≤ s.size → m ≤ 4096 → 1 ≤ deep → deep ≤ 129 → item ≤ 65 → 2 * (s.size - a) + 1 ≤ f → TxB w g s a m 0 0 →
    Calls Tryz.prog 37 #[.pointer (some ⟨g, 0, none⟩), .int .i64 deep, .int .i64 item] w (TPost (pval f s.data.toList a m deep item) s g w)
/-- What holds in the loop: the text's block, the value's, the result's. -/
structure Sr (w W : World) (g V9 : Nat) (s : ByteArray) (bk : Nat) (a m p e : Int) (val : Value) : Prop where
  kT : TxB W g s a m p e
  kV : Blk W V9 24 #[.int .u8 bk, .int .i64 0, val]
  kR : Blk W w.heap.size 24 #[.int .u8 0, .int .i64 0, .slice none 0 0]
  g0 : w.grownBy W (some g)
  hr : g < w.heap.size
  hV : w.heap.size < V9
def SrC (w W : World) (g V9 : Nat) (s : ByteArray) (bk : Nat) (a m e : Int) (val : Value) : Prop :=
  (W.cell? ⟨g, 4, none⟩ = some (.int .i64 e)) ∧ (W.cell? ⟨V9, 0, none⟩ = some (.int .u8 bk) ∧ W.cell? ⟨V9, 1, none⟩ = some (.int .i64 0) ∧ W.cell? ⟨V9, 2, none⟩ = some val ∧ W.frozen? ⟨V9, 2, none⟩ = false) ∧
  (W.cell? ⟨w.heap.size, 0, none⟩ = some (.int .u8 0) ∧ W.cell? ⟨w.heap.size, 1, none⟩ = some (.int .i64 0) ∧ W.cell? ⟨w.heap.size, 2, none⟩ = some (.slice none 0 0)) ∧
  (W.frozen? ⟨w.heap.size, 0, none⟩ = false ∧ W.frozen? ⟨w.heap.size, 1, none⟩ = false ∧ W.frozen? ⟨w.heap.size, 2, none⟩ = false)
theorem Sr.cells {w W : World} {g V9 : Nat} {s : ByteArray} {bk : Nat} {a m p e : Int} {val : Value} (h : Sr w W g V9 s bk a m p e val) : SrC w W g V9 s bk a m e val :=
  ⟨h.kT.cell 4, ⟨h.kV.three.1.1, h.kV.three.1.2.1, h.kV.three.1.2.2, h.kV.frozen 2⟩, h.kR.three.1, h.kR.three.2⟩
theorem Sr.grown {w W W' : World} {g V9 : Nat} {s : ByteArray} {bk : Nat} {a m p e a' m' p' e' : Int} {val : Value} (h : Sr w W g V9 s bk a m p e val) (hg : W.grownBy W' (some g)) (hT : TxB W' g s a' m' p' e') : Sr w W' g V9 s bk a' m' p' e' val :=
  ⟨hT, h.kV.grown hg (fun q => by injection q with q; have := h.hr; have := h.hV; omega), h.kR.grown hg (fun q => by injection q with q; have := h.hr; omega), only_trans h.g0 hg, h.hr, h.hV⟩
theorem Sr.alloc {w W : World} {g V9 : Nat} {s : ByteArray} {bk : Nat} {a m p e : Int} {val : Value} (h : Sr w W g V9 s bk a m p e val) (o : Obj) : Sr w (W.alloc o) g V9 s bk a m p e val :=
  h.grown (only_alloc (only_refl W _) o) (h.kT.alloc o)
theorem Sr.drew {w W : World} {g V9 : Nat} {s : ByteArray} {bk : Nat} {a m p e : Int} {val : Value} (h : Sr w W g V9 s bk a m p e val) : Sr w W.drew g V9 s bk a m p e val :=
  h.grown (only_drew (only_refl W _)) h.kT.drew
theorem only_behind {a b c : World} {g : Nat} {row : Option Nat} (h : a.grownBy b (some g)) (k : b.grownBy c row) (hr : ∀ r, row = some r → a.heap.size ≤ r) : a.grownBy c (some g) :=
  ⟨k.os.trans h.os, k.tape.trans h.tape, k.output.trans h.output, Nat.le_trans h.size k.size, fun i hi hn => (k.block i (Nat.lt_of_lt_of_le hi h.size) (fun q => by have := hr i q.symm; omega)).trans (h.block i hi hn)⟩
theorem Sr.row {w W W' : World} {g V9 : Nat} {s : ByteArray} {bk : Nat} {a m p e : Int} {val : Value} {row : Option Nat} (h : Sr w W g V9 s bk a m p e val) (hg : W.grownBy W' row) (hr : ∀ r, row = some r → V9 + 1 ≤ r) : Sr w W' g V9 s bk a m p e val :=
  ⟨h.kT.grown hg (fun q => by have := hr g q.symm; have := h.hr; have := h.hV; omega), h.kV.grown hg (fun q => by have := hr V9 q.symm; omega), h.kR.grown hg (fun q => by have := hr _ q.symm; have := h.hV; omega), only_behind h.g0 hg (fun r q => by have := hr r q; have := h.hV; omega), h.hr, h.hV⟩
theorem Sr.items {w W : World} {g V9 : Nat} {s : ByteArray} {bk : Nat} {a m p e : Int} {val : Value} (h : Sr w W g V9 s bk a m p e val) (v : Value) : Sr w (W.setCell ⟨V9, 2, none⟩ v) g V9 s bk a m p e v :=
  ⟨h.kT.far (p := ⟨V9, 2, none⟩) (by have := h.hr; have := h.hV; show g ≠ V9; omega) _, h.kV.set_ 2 v, h.kR.far (p := ⟨V9, 2, none⟩) (by have := h.hV; show w.heap.size ≠ V9; omega) _, only_setCell h.g0 (p := ⟨V9, 2, none⟩) (.inr (Nat.le_of_lt h.hV)) _, h.hr, h.hV⟩
/-- The end of a value that is refused. -/
theorem Sr.bad {w W : World} {g V9 : Nat} {s : ByteArray} {bk : Nat} {a m p e : Int} {val : Value} (h : Sr w W g V9 s bk a m p e val) (u v x : Value) :
    TxB (((W.setCell ⟨w.heap.size, 0, none⟩ u).setCell ⟨w.heap.size, 1, none⟩ v).setCell ⟨w.heap.size, 2, none⟩ x) g s a m p e ∧ w.grownBy (((W.setCell ⟨w.heap.size, 0, none⟩ u).setCell ⟨w.heap.size, 1, none⟩ v).setCell ⟨w.heap.size, 2, none⟩ x) (some g) := by
  have hr := h.hr
  have e0 : ∀ i, g ≠ (⟨w.heap.size, i, none⟩ : Addr).block := fun i => by show g ≠ w.heap.size; omega
  have e1 : ∀ i, (⟨w.heap.size, i, none⟩ : Addr).block = g ∨ w.heap.size ≤ (⟨w.heap.size, i, none⟩ : Addr).block := fun i => .inr (Nat.le_refl _)
  exact ⟨((h.kT.far (e0 0) _).far (e0 1) _).far (e0 2) _, only_setCell (only_setCell (only_setCell h.g0 (e1 0) _) (e1 1) _) (e1 2) _⟩
/-- How much is left. -/
def tLeft (w : World) (g n : Nat) : Nat := if intOf ((w.cell? ⟨g, 4, none⟩).getD undef) = 0 then n - (intOf ((w.cell? ⟨g, 1, none⟩).getD undef)).toNat + 1 else 0
theorem tLeft_ok {w : World} {g n : Nat} {s : ByteArray} {a : Nat} {m p : Int} (h : TxB w g s a m p 0) : tLeft w g n = n - a + 1 := by
  unfold tLeft
  have h1 := h.cell 1; have h4 := h.cell 4
  simp at h1 h4
  rw [h1, h4]
  simp [intOf]
theorem tLeft_bad {w : World} {g n : Nat} {s : ByteArray} {a m p e : Int} (he : e ≠ 0) (h : TxB w g s a m p e) : tLeft w g n = 0 := by
  unfold tLeft
  have h4 := h.cell 4
  simp at h4
  rw [h4]
  simp [intOf, he]
/-- What holds at the loop's head. -/
def RowInv (w : World) (g V9 : Nat) (s : ByteArray) (bk deep F : Nat) (R : PR (List V)) (W : World) : Prop :=
  (∃ (a m f : Nat) (acc : List VT) (A : Option Addr) (c : Nat), a ≤ s.size ∧ m ≤ 4096 ∧ acc.length ≤ 64 ∧ 2 * (s.size - a) + 2 ≤ f ∧ f ≤ F ∧ Sr w W g V9 s bk a m 0 0 (.slice A acc.length c) ∧ Grow 24 (V9 + 1) (.slice A acc.length c) acc W ∧ pitems f s.data.toList a m bk deep (acc.map (·.1)) = R) ∨
  (∃ (a m : Int) (p e : Nat) (val : Value), e ≠ 0 ∧ R = .bad p e ∧ Sr w W g V9 s bk a m p e val)
theorem sv_sr {w W : World} {g M V9 : Nat} {s : ByteArray} {kk b d : Nat} {n : Int} {l : List UInt8} {bk : Nat} {m : Int} (h : Sv w W g M V9 s kk b d n l bk 0 m 0) : Sr w W g V9 s bk d m 0 0 (.slice none 0 0) := by
  have hT := h.kT
  rw [if_pos rfl] at hT
  exact ⟨hT, h.kV, h.kR, h.g0, h.hr, Nat.lt_trans h.hM h.hV⟩
theorem grow_start (T : TypeId) (w : World) (B : Nat) (hB : B ≤ w.heap.size) : Grow T B (.slice none 0 0) [] w := ⟨World.ownsRow_nil _ _ _ _, fun _ h => by cases h⟩
end

/-! The walks of Num, Bool, and of Tuple and List of nothing. -/
section
open Go.RowKit

theorem num_any (n : Int) (w : World) : Calls Tryz.prog 91 #[.int .i64 n] w fun e w' => e = .returned (vAgg (.mk 1 n []) none 0) ∧ Below w.heap.size w w' := by
  have hb0 : Hid (∀ o, Below w.heap.size w (w.alloc o)) := fun o => (Below.refl w.heap.size w).alloc (Nat.le_refl _) o
  go_enter Tryz.func91, Tryz.ntmps91
  go_wp2_with fail
  refine bodyPost_ret (v := .agg #[.int .u8 1, .int .i64 n, .slice none 0 0]) (by simp [results, Tryz.results91, go_sem]) rfl ⟨rfl, ?_⟩
  first | exact hb0.out _ | exact Below.refl _ _

theorem copies_nil (A : Option Addr) (c : Nat) (w : World) : Calls Tryz.prog 40 #[.slice A 0 c] w fun e w' => e = .returned (.slice none 0 0) ∧ w = w' := by
  go_enter Tryz.func40, Tryz.ntmps40
  go_wp2_with fail
  go_ret
  exact ⟨rfl, rfl⟩

theorem tuple_nil (A : Option Addr) (c : Nat) (w : World) : Calls Tryz.prog 24 #[.slice A 0 c] w fun e w' => e = .returned (vAgg (.mk 3 0 []) none 0) ∧ Below w.heap.size w w' := by
  have hb0 : Hid (∀ o, Below w.heap.size w (w.alloc o)) := fun o => (Below.refl w.heap.size w).alloc (Nat.le_refl _) o
  have HC := Lib.hid (fun W => copies_nil A c W)
  go_enter Tryz.func24, Tryz.ntmps24
  go_wp2_with (go_at_call 40; refine (HC.out _).mono ?_; rintro e w' ⟨rfl, rfl⟩)
  refine bodyPost_ret (v := .agg #[.int .u8 3, .int .i64 0, .slice none 0 0]) (by simp [results, Tryz.results24, go_sem]) rfl ⟨rfl, ?_⟩
  first | exact hb0.out _ | exact Below.refl _ _

theorem list_nil (A : Option Addr) (c : Nat) (w : World) : Calls Tryz.prog 23 #[.slice A 0 c] w fun e w' => e = .returned (vAgg (.mk 4 0 []) none 0) ∧ Below w.heap.size w w' := by
  have hb0 : Hid (∀ o, Below w.heap.size w (w.alloc o)) := fun o => (Below.refl w.heap.size w).alloc (Nat.le_refl _) o
  have HC := Lib.hid (fun W => copies_nil A c W)
  go_enter Tryz.func23, Tryz.ntmps23
  go_wp2_with (go_at_call 40; refine (HC.out _).mono ?_; rintro e w' ⟨rfl, rfl⟩)
  refine bodyPost_ret (v := .agg #[.int .u8 4, .int .i64 0, .slice none 0 0]) (by simp [results, Tryz.results23, go_sem]) rfl ⟨rfl, ?_⟩
  first | exact hb0.out _ | exact Below.refl _ _

theorem bool_any (b : Bool) (w : World) : Calls Tryz.prog 92 #[.bool b] w fun e w' => e = .returned (vAgg (.mk 2 (if b then 1 else 0) []) none 0) ∧ Below w.heap.size w w' := by
  have hb0 : Hid (∀ o, Below w.heap.size w (w.alloc o)) := fun o => (Below.refl w.heap.size w).alloc (Nat.le_refl _) o
  cases b
  · go_enter Tryz.func92, Tryz.ntmps92
    go_wp2_with fail
    refine bodyPost_ret (v := .agg #[.int .u8 2, .int .i64 0, .slice none 0 0]) (by simp [results, Tryz.results92, go_sem]) rfl ⟨rfl, ?_⟩
    exact (hb0.out _).alloc (hb0.out _).size _
  · go_enter Tryz.func92, Tryz.ntmps92
    go_wp2_with fail
    refine bodyPost_ret (v := .agg #[.int .u8 2, .int .i64 1, .slice none 0 0]) (by simp [results, Tryz.results92, go_sem]) rfl ⟨rfl, ?_⟩
    exact (hb0.out _).alloc (hb0.out _).size _
end

/-! The walks of the texts' small functions: brackets, shuts. -/
section
open Go.RowKit

theorem brackets_tuple (w : World) : Calls Tryz.prog 45 #[.int .u8 3] w fun e w' => e = .returned (.agg #[.string ⟨#[60]⟩, .string ⟨#[62]⟩, .int .u8 5, .int .u8 6]) ∧ Below w.heap.size w w' := by
  have hb0 : Hid (∀ o, Below w.heap.size w (w.alloc o)) := fun o => (Below.refl w.heap.size w).alloc (Nat.le_refl _) o
  go_enter Tryz.func45, Tryz.ntmps45
  go_wp2_with fail
  refine bodyPost_ret (v := .agg #[.string ⟨#[60]⟩, .string ⟨#[62]⟩, .int .u8 5, .int .u8 6]) (by simp [results, Tryz.results45, go_sem]) rfl ⟨rfl, ?_⟩
  exact hb0.out _
theorem brackets_list (w : World) (k : Nat) (hk : k ≠ 3) : Calls Tryz.prog 45 #[.int .u8 k] w fun e w' => e = .returned (.agg #[.string ⟨#[91]⟩, .string ⟨#[93]⟩, .int .u8 3, .int .u8 4]) ∧ Below w.heap.size w w' := by
  have hb0 : Hid (∀ o, Below w.heap.size w (w.alloc o)) := fun o => (Below.refl w.heap.size w).alloc (Nat.le_refl _) o
  have hk3 : ((k : Int) == 3) = false := beq_eq_false_iff_ne.2 (by omega)
  go_enter Tryz.func45, Tryz.ntmps45
  go_wp2_with fail
  refine bodyPost_ret (v := .agg #[.string ⟨#[91]⟩, .string ⟨#[93]⟩, .int .u8 3, .int .u8 4]) (by simp [results, Tryz.results45, go_sem]) rfl ⟨rfl, ?_⟩
  exact hb0.out _
end
end Go.Proofs.YtbhekkkijomglaaGreatDoor
