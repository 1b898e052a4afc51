/- Put together: ValA, ValI. -/
import Derived.Test.YtbhekkkijomglaaGreatDoorBldZ
import Derived.Test.YtbhekkkijomglaaGreatDoorShelf
import Derived.Test.YtbhekkkijomglaaGreatDoorValS
import Derived.RangeFuncNested
import Derived.RangeFuncBound
import Derived.RangeFuncCalls
import Derived.RangeFuncLeaves
import Derived.Shelf.Abstract
import Derived.Shelf.RegionOpen
import Derived.WalkKit
import Derived.OwnWalkIn
import Derived.TacticsInMore
import Derived.LoopNIn
import Derived.LoopIn
namespace Go.Proofs.YtbhekkkijomglaaGreatDoor
/-! A value, and then its items: in plain Lean. No program in sight. -/
section
open Go

mutual
/-- A value and its items, each with its depth. -/
def V.all : V → Nat → List (Nat × V)
  | .mk k n l, d => (d, .mk k n l) :: V.alls l (d + 1)
def V.alls : List V → Nat → List (Nat × V)
  | [], _ => []
  | x :: r, d => x.all d ++ V.alls r d
end
def nE (p : Nat × V) : Nat := nodeE p.2.k p.2.n p.2.l.length
def firstE : List (Nat × V) → Nat
  | [] => 0
  | p :: r => if nE p ≠ 0 then nE p else firstE r
def maxD : List (Nat × V) → Nat
  | [] => 0
  | p :: r => max p.1 (maxD r)
theorem firstE_append (a b : List (Nat × V)) : firstE (a ++ b) = if firstE a ≠ 0 then firstE a else firstE b := by
  induction a with
  | nil => rfl
  | cons p r ih =>
    rw [List.cons_append, firstE, firstE]
    by_cases h : nE p ≠ 0
    · rw [if_pos h, if_pos h, if_pos h]
    · rw [if_neg h, if_neg h, ih]
theorem maxD_append (a b : List (Nat × V)) : maxD (a ++ b) = max (maxD a) (maxD b) := by
  induction a with
  | nil => rw [List.nil_append, maxD]; omega
  | cons p r ih => rw [List.cons_append, maxD, maxD, ih]; omega
theorem maxD_snoc (a : List (Nat × V)) (p : Nat × V) : maxD (a ++ [p]) = max (maxD a) p.1 := by rw [maxD_append, maxD, maxD]; omega
theorem all_first : ∀ (v : V) (d : Nat), firstE (v.all d) = v.first := by
  intro v
  induction v using V.ind with
  | h k n l ih =>
    intro d
    have key : ∀ (l : List V), (∀ x ∈ l, ∀ d, firstE (x.all d) = x.first) → ∀ d, firstE (V.alls l d) = V.firsts l := by
      intro l
      induction l with
      | nil => intro _ d; rw [V.alls, V.firsts]; rfl
      | cons x r ihr =>
        intro hx d
        rw [V.alls, V.firsts, firstE_append, hx x List.mem_cons_self d, ihr (fun y hy => hx y (List.mem_cons_of_mem _ hy)) d]
    rw [V.all, V.first, firstE, key l (fun x hx => ih x hx)]
    rfl
theorem all_length : ∀ (v : V) (d : Nat), (v.all d).length = v.size := by
  intro v
  induction v using V.ind with
  | h k n l ih =>
    intro d
    have key : ∀ (l : List V), (∀ x ∈ l, ∀ d, (x.all d).length = x.size) → ∀ d, (V.alls l d).length = V.sizes l := by
      intro l
      induction l with
      | nil => intro _ d; rw [V.alls, V.sizes]; rfl
      | cons x r ihr =>
        intro hx d
        rw [V.alls, V.sizes, List.length_append, hx x List.mem_cons_self d, ihr (fun y hy => hx y (List.mem_cons_of_mem _ hy)) d]
    rw [V.all, V.size, List.length_cons, key l (fun x hx => ih x hx)]
    omega
theorem all_deep : ∀ (v : V) (d : Nat), maxD (v.all d) + 1 = d + v.deep := by
  intro v
  induction v using V.ind with
  | h k n l ih =>
    intro d
    have key : ∀ (l : List V), (∀ x ∈ l, ∀ d, maxD (x.all d) + 1 = d + x.deep) → ∀ d, (l = [] ∧ maxD (V.alls l d) = 0 ∧ V.deeps l = 0) ∨ (maxD (V.alls l d) + 1 = d + V.deeps l ∧ 0 < V.deeps l) := by
      intro l
      induction l with
      | nil => intro _ d; rw [V.alls, V.deeps]; exact .inl ⟨rfl, rfl, rfl⟩
      | cons x r ihr =>
        intro hx d
        right
        have h1 := hx x List.mem_cons_self d
        have hp : 0 < x.deep := by cases x; rw [V.deep]; omega
        rw [V.alls, V.deeps, maxD_append]
        rcases ihr (fun y hy => hx y (List.mem_cons_of_mem _ hy)) d with ⟨_, h2, h3⟩ | ⟨h2, h3⟩
        · rw [h2, h3]; omega
        · omega
    rw [V.all, V.deep, maxD]
    rcases key l (fun x hx => ih x hx) (d + 1) with ⟨_, h2, h3⟩ | ⟨h2, h3⟩
    · rw [h2, h3]; show max d 0 + 1 = _; omega
    · show max d (maxD (V.alls l (d + 1))) + 1 = _; omega
theorem check_all (v : V) : v.check = if firstE (v.all 1) ≠ 0 then firstE (v.all 1) else if 128 < maxD (v.all 1) then 9 else if 4096 < (v.all 1).length then 5 else 0 := by
  have := all_deep v 1
  unfold V.check
  rw [all_first, all_length, show maxD (v.all 1) = v.deep by omega]
/-- Where a round has found something wrong, that is what is wrong. -/
theorem first_pre {xs pre : List (Nat × V)} {p : Nat × V} (h : pre ++ [p] <+: xs) (h0 : ∀ q ∈ pre, nE q = 0) (hp : nE p ≠ 0) : firstE xs = nE p := by
  obtain ⟨r, rfl⟩ := h
  have hz : firstE pre = 0 := by
    clear hp
    induction pre with
    | nil => rfl
    | cons q t ih => rw [firstE, if_neg (not_not_intro (h0 q List.mem_cons_self))]; exact ih fun y hy => h0 y (List.mem_cons_of_mem _ hy)
  have h1 : firstE (pre ++ [p]) = nE p := by rw [firstE_append, hz, if_neg (by simp), firstE, if_pos hp]
  rw [firstE_append, h1, if_pos hp]
theorem first_none {xs : List (Nat × V)} (h0 : ∀ q ∈ xs, nE q = 0) : firstE xs = 0 := by
  induction xs with
  | nil => rfl
  | cons q t ih => rw [firstE, if_neg (not_not_intro (h0 q List.mem_cons_self))]; exact ih fun y hy => h0 y (List.mem_cons_of_mem _ hy)
end

/-! The iterator over a value and its items, walked inside a fence. -/
section
open Go.RowKit Go.Shelf

attribute [local go_sem] Oper.semAt_some

/-- What the iterator hands on: the depth, the value, where its items stand. -/
structure It where
  d : Nat
  v : V
  A : Option Addr
  c : Nat
def encI (x : It) : Array Value := #[.int .i64 x.d, vAgg x.v x.A x.c]
def projI (x : It) : Nat × V := (x.d, x.v)
/-- All cells lie as they lay, but for two blocks. -/
structure KpC (b1 b2 : Nat) (W W' : World) : Prop where
  size : W.heap.size ≤ W'.heap.size
  cells : ∀ b cs t f, b ≠ b1 → b ≠ b2 → W.heap[b]? = some (.cells cs t f) → W'.heap[b]? = some (.cells cs t f)
theorem KpC.refl (b1 b2 : Nat) (W : World) : KpC b1 b2 W W := ⟨Nat.le_refl _, fun _ _ _ _ _ _ h => h⟩
theorem KpC.trans {b1 b2 : Nat} {A B C : World} (h : KpC b1 b2 A B) (k : KpC b1 b2 B C) : KpC b1 b2 A C := ⟨Nat.le_trans h.size k.size, fun b cs t f n1 n2 e => k.cells b cs t f n1 n2 (h.cells b cs t f n1 n2 e)⟩
theorem KpC.alloc (b1 b2 : Nat) (W : World) (o : Obj) : KpC b1 b2 W (W.alloc o) :=
  ⟨by simp, fun b cs t f _ _ h => (Below.heap_alloc W o b (Array.getElem?_eq_some_iff.1 h).1).trans h⟩
theorem KpC.blk {b1 b2 g : Nat} {t : TypeId} {cs : Array Value} {W W' : World} (h : KpC b1 b2 W W') (k : Blk W g t cs) (n1 : g ≠ b1) (n2 : g ≠ b2) : Blk W' g t cs := h.cells g cs t (0, 0) n1 n2 k
theorem KpC.vsl {b1 b2 n0 : Nat} {A : Option Addr} {l : List V} {W W' : World} (h : KpC b1 b2 W W') (n1 : n0 ≤ b1) (n2 : n0 ≤ b2) (k : Vsl W n0 A l) : Vsl W' n0 A l :=
  k.carry (Nat.le_refl _) fun p u hp hu => by
    unfold World.cell? at hu ⊢
    cases hb : W.heap[p.block]? with
    | none => rw [hb] at hu; cases hu
    | some o =>
      rw [hb] at hu
      cases o with
      | cells cs t f => rw [h.cells p.block cs t f (by omega) (by omega) hb]; exact hu
      | _ => cases hu
theorem alls_snoc (l : List V) (j d : Nat) (x : V) (h : l[j]? = some x) : V.alls (l.take (j + 1)) d = V.alls (l.take j) d ++ x.all d := by
  have key : ∀ (a : List V), V.alls (a ++ [x]) d = V.alls a d ++ x.all d := by
    intro a
    induction a with
    | nil => rw [List.nil_append, V.alls, V.alls, V.alls, List.append_nil]; rfl
    | cons y r ih => rw [List.cons_append, V.alls, V.alls, ih, List.append_assoc]
  rw [List.take_add_one, h]
  exact key _
theorem sizes_take (l : List V) (j : Nat) (x : V) (h : l[j]? = some x) : V.sizes (l.take j) + x.size ≤ V.sizes l := by
  have key : ∀ a b : List V, V.sizes (a ++ b) = V.sizes a + V.sizes b := by
    intro a b
    induction a with
    | nil => rw [List.nil_append, V.sizes]; omega
    | cons y r ih => rw [List.cons_append, V.sizes, V.sizes, ih]; omega
  have e := key (l.take j) (l.drop j)
  rw [List.take_append_drop, drop_cons h, V.sizes] at e
  omega
theorem alls_length (l : List V) (d : Nat) : (V.alls l d).length = V.sizes l := by
  induction l with
  | nil => rw [V.alls, V.sizes]; rfl
  | cons x r ih => rw [V.alls, V.sizes, List.length_append, all_length, ih]
end
end Go.Proofs.YtbhekkkijomglaaGreatDoor
