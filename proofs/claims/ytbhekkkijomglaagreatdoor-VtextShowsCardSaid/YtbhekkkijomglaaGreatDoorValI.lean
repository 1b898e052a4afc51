/- The iterator over a value and its items, walked inside a fence. -/
import Derived.RangeFuncNested
import Derived.RangeFuncBound
import Derived.RangeFuncCalls
import Derived.RangeFuncLeaves
import Derived.Shelf.Abstract
import Derived.Shelf.RegionOpen
import Derived.WalkKit
import Derived.OwnWalkIn
import Derived.TacticsInMore
import Derived.LoopNIn
import Derived.LoopIn
import Derived.Test.YtbhekkkijomglaaGreatDoorShelf
import Derived.Test.YtbhekkkijomglaaGreatDoorValA
import Derived.Test.YtbhekkkijomglaaGreatDoorValS
namespace Go.Proofs.YtbhekkkijomglaaGreatDoor
open Go.RowKit Go.Shelf

attribute [local go_sem] Oper.semAt_some

/-- What the iterator hands on: the depth, the value, where its items stand. -/
structure It where
  d : Nat
  v : V
  A : Option Addr
  c : Nat
def encI (x : It) : Array Value := #[.int .i64 x.d, vAgg x.v x.A x.c]
def projI (x : It) : Nat × V := (x.d, x.v)
/-- All cells lie as they lay, but for two blocks. -/
structure KpC (b1 b2 : Nat) (W W' : World) : Prop where
  size : W.heap.size ≤ W'.heap.size
  cells : ∀ b cs t f, b ≠ b1 → b ≠ b2 → W.heap[b]? = some (.cells cs t f) → W'.heap[b]? = some (.cells cs t f)
theorem KpC.refl (b1 b2 : Nat) (W : World) : KpC b1 b2 W W := ⟨Nat.le_refl _, fun _ _ _ _ _ _ h => h⟩
theorem KpC.trans {b1 b2 : Nat} {A B C : World} (h : KpC b1 b2 A B) (k : KpC b1 b2 B C) : KpC b1 b2 A C := ⟨Nat.le_trans h.size k.size, fun b cs t f n1 n2 e => k.cells b cs t f n1 n2 (h.cells b cs t f n1 n2 e)⟩
theorem KpC.alloc (b1 b2 : Nat) (W : World) (o : Obj) : KpC b1 b2 W (W.alloc o) :=
  ⟨by simp, fun b cs t f _ _ h => (Below.heap_alloc W o b (Array.getElem?_eq_some_iff.1 h).1).trans h⟩
theorem KpC.blk {b1 b2 g : Nat} {t : TypeId} {cs : Array Value} {W W' : World} (h : KpC b1 b2 W W') (k : Blk W g t cs) (n1 : g ≠ b1) (n2 : g ≠ b2) : Blk W' g t cs := h.cells g cs t (0, 0) n1 n2 k
theorem KpC.vsl {b1 b2 n0 : Nat} {A : Option Addr} {l : List V} {W W' : World} (h : KpC b1 b2 W W') (n1 : n0 ≤ b1) (n2 : n0 ≤ b2) (k : Vsl W n0 A l) : Vsl W' n0 A l :=
  k.carry (Nat.le_refl _) fun p u hp hu => by
    unfold World.cell? at hu ⊢
    cases hb : W.heap[p.block]? with
    | none => rw [hb] at hu; cases hu
    | some o =>
      rw [hb] at hu
      cases o with
      | cells cs t f => rw [h.cells p.block cs t f (by omega) (by omega) hb]; exact hu
      | _ => cases hu
theorem alls_snoc (l : List V) (j d : Nat) (x : V) (h : l[j]? = some x) : V.alls (l.take (j + 1)) d = V.alls (l.take j) d ++ x.all d := by
  have key : ∀ (a : List V), V.alls (a ++ [x]) d = V.alls a d ++ x.all d := by
    intro a
    induction a with
    | nil => rw [List.nil_append, V.alls, V.alls, V.alls, List.append_nil]; rfl
    | cons y r ih => rw [List.cons_append, V.alls, V.alls, ih, List.append_assoc]
  rw [List.take_add_one, h]
  exact key _
theorem sizes_take (l : List V) (j : Nat) (x : V) (h : l[j]? = some x) : V.sizes (l.take j) + x.size ≤ V.sizes l := by
  have key : ∀ a b : List V, V.sizes (a ++ b) = V.sizes a + V.sizes b := by
    intro a b
    induction a with
    | nil => rw [List.nil_append, V.sizes]; omega
    | cons y r ih => rw [List.cons_append, V.sizes, V.sizes, ih]; omega
  have e := key (l.take j) (l.drop j)
  rw [List.take_append_drop, drop_cons h, V.sizes] at e
  omega
theorem alls_length (l : List V) (d : Nat) : (V.alls l d).length = V.sizes l := by
  induction l with
  | nil => rw [V.alls, V.sizes]; rfl
  | cons x r ih => rw [V.alls, V.sizes, List.length_append, all_length, ih]
end Go.Proofs.YtbhekkkijomglaaGreatDoor
