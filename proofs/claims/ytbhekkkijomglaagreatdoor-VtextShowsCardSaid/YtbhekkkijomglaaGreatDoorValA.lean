/- A value, and then its items: in plain Lean. No program in sight. -/
import Derived.Test.YtbhekkkijomglaaGreatDoorValPA
namespace Go.Proofs.YtbhekkkijomglaaGreatDoor
open Go

mutual
/-- A value and its items, each with its depth. -/
def V.all : V → Nat → List (Nat × V)
  | .mk k n l, d => (d, .mk k n l) :: V.alls l (d + 1)
def V.alls : List V → Nat → List (Nat × V)
  | [], _ => []
  | x :: r, d => x.all d ++ V.alls r d
end
def nE (p : Nat × V) : Nat := nodeE p.2.k p.2.n p.2.l.length
def firstE : List (Nat × V) → Nat
  | [] => 0
  | p :: r => if nE p ≠ 0 then nE p else firstE r
def maxD : List (Nat × V) → Nat
  | [] => 0
  | p :: r => max p.1 (maxD r)
theorem firstE_append (a b : List (Nat × V)) : firstE (a ++ b) = if firstE a ≠ 0 then firstE a else firstE b := by
  induction a with
  | nil => rfl
  | cons p r ih =>
    rw [List.cons_append, firstE, firstE]
    by_cases h : nE p ≠ 0
    · rw [if_pos h, if_pos h, if_pos h]
    · rw [if_neg h, if_neg h, ih]
theorem maxD_append (a b : List (Nat × V)) : maxD (a ++ b) = max (maxD a) (maxD b) := by
  induction a with
  | nil => rw [List.nil_append, maxD]; omega
  | cons p r ih => rw [List.cons_append, maxD, maxD, ih]; omega
theorem maxD_snoc (a : List (Nat × V)) (p : Nat × V) : maxD (a ++ [p]) = max (maxD a) p.1 := by rw [maxD_append, maxD, maxD]; omega
theorem all_first : ∀ (v : V) (d : Nat), firstE (v.all d) = v.first := by
  intro v
  induction v using V.ind with
  | h k n l ih =>
    intro d
    have key : ∀ (l : List V), (∀ x ∈ l, ∀ d, firstE (x.all d) = x.first) → ∀ d, firstE (V.alls l d) = V.firsts l := by
      intro l
      induction l with
      | nil => intro _ d; rw [V.alls, V.firsts]; rfl
      | cons x r ihr =>
        intro hx d
        rw [V.alls, V.firsts, firstE_append, hx x List.mem_cons_self d, ihr (fun y hy => hx y (List.mem_cons_of_mem _ hy)) d]
    rw [V.all, V.first, firstE, key l (fun x hx => ih x hx)]
    rfl
theorem all_length : ∀ (v : V) (d : Nat), (v.all d).length = v.size := by
  intro v
  induction v using V.ind with
  | h k n l ih =>
    intro d
    have key : ∀ (l : List V), (∀ x ∈ l, ∀ d, (x.all d).length = x.size) → ∀ d, (V.alls l d).length = V.sizes l := by
      intro l
      induction l with
      | nil => intro _ d; rw [V.alls, V.sizes]; rfl
      | cons x r ihr =>
        intro hx d
        rw [V.alls, V.sizes, List.length_append, hx x List.mem_cons_self d, ihr (fun y hy => hx y (List.mem_cons_of_mem _ hy)) d]
    rw [V.all, V.size, List.length_cons, key l (fun x hx => ih x hx)]
    omega
theorem all_deep : ∀ (v : V) (d : Nat), maxD (v.all d) + 1 = d + v.deep := by
  intro v
  induction v using V.ind with
  | h k n l ih =>
    intro d
    have key : ∀ (l : List V), (∀ x ∈ l, ∀ d, maxD (x.all d) + 1 = d + x.deep) → ∀ d, (l = [] ∧ maxD (V.alls l d) = 0 ∧ V.deeps l = 0) ∨ (maxD (V.alls l d) + 1 = d + V.deeps l ∧ 0 < V.deeps l) := by
      intro l
      induction l with
      | nil => intro _ d; rw [V.alls, V.deeps]; exact .inl ⟨rfl, rfl, rfl⟩
      | cons x r ihr =>
        intro hx d
        right
        have h1 := hx x List.mem_cons_self d
        have hp : 0 < x.deep := by cases x; rw [V.deep]; omega
        rw [V.alls, V.deeps, maxD_append]
        rcases ihr (fun y hy => hx y (List.mem_cons_of_mem _ hy)) d with ⟨_, h2, h3⟩ | ⟨h2, h3⟩
        · rw [h2, h3]; omega
        · omega
    rw [V.all, V.deep, maxD]
    rcases key l (fun x hx => ih x hx) (d + 1) with ⟨_, h2, h3⟩ | ⟨h2, h3⟩
    · rw [h2, h3]; show max d 0 + 1 = _; omega
    · show max d (maxD (V.alls l (d + 1))) + 1 = _; omega
theorem check_all (v : V) : v.check = if firstE (v.all 1) ≠ 0 then firstE (v.all 1) else if 128 < maxD (v.all 1) then 9 else if 4096 < (v.all 1).length then 5 else 0 := by
  have := all_deep v 1
  unfold V.check
  rw [all_first, all_length, show maxD (v.all 1) = v.deep by omega]
/-- Where a round has found something wrong, that is what is wrong. -/
theorem first_pre {xs pre : List (Nat × V)} {p : Nat × V} (h : pre ++ [p] <+: xs) (h0 : ∀ q ∈ pre, nE q = 0) (hp : nE p ≠ 0) : firstE xs = nE p := by
  obtain ⟨r, rfl⟩ := h
  have hz : firstE pre = 0 := by
    clear hp
    induction pre with
    | nil => rfl
    | cons q t ih => rw [firstE, if_neg (not_not_intro (h0 q List.mem_cons_self))]; exact ih fun y hy => h0 y (List.mem_cons_of_mem _ hy)
  have h1 : firstE (pre ++ [p]) = nE p := by rw [firstE_append, hz, if_neg (by simp), firstE, if_pos hp]
  rw [firstE_append, h1, if_pos hp]
theorem first_none {xs : List (Nat × V)} (h0 : ∀ q ∈ xs, nE q = 0) : firstE xs = 0 := by
  induction xs with
  | nil => rfl
  | cons q t ih => rw [firstE, if_neg (not_not_intro (h0 q List.mem_cons_self))]; exact ih fun y hy => h0 y (List.mem_cons_of_mem _ hy)
end Go.Proofs.YtbhekkkijomglaaGreatDoor
