/- A region that draws its order, by a fact that holds whatever has come up: one step for each operation, whatever the order. -/
import Derived.Orders
namespace Go.Proofs.YtbhekkkijomglaaGreatDoor
open Go

/-- How many have not come up. -/
def openN : Nat → Array Bool → Nat
  | 0, _ => 0
  | n + 1, l => openN n l + if l.getD n true = true then 0 else 1
theorem getD_set (l : Array Bool) (i j : Nat) (hi : i < l.size) : (l.setIfInBounds i true).getD j true = if i = j then true else l.getD j true := by
  rw [Array.getD_eq_getD_getElem?, Array.getD_eq_getD_getElem?, Array.getElem?_setIfInBounds]
  by_cases h : i = j
  · rw [if_pos h, if_pos h, if_pos (by omega)]; rfl
  · rw [if_neg h, if_neg h]
theorem openN_le (l : Array Bool) (i : Nat) (hi : i < l.size) : ∀ n, openN n (l.setIfInBounds i true) ≤ openN n l
  | 0 => Nat.le_refl _
  | n + 1 => by
    have := openN_le l i hi n
    rw [openN, openN, getD_set l i n hi]
    by_cases h : i = n
    · rw [if_pos h]; simp; omega
    · rw [if_neg h]; omega
theorem openN_lt (l : Array Bool) (i : Nat) (hi : i < l.size) (h : l.getD i true = false) : ∀ n, i < n → openN n (l.setIfInBounds i true) + 1 ≤ openN n l
  | 0, hn => by omega
  | n + 1, hn => by
    rw [openN, openN, getD_set l i n hi]
    by_cases e : i = n
    · subst e
      have := openN_le l i hi i
      rw [if_pos rfl, h]; simp; omega
    · have := openN_lt l i hi h n (by omega)
      rw [if_neg e]; omega
theorem openN_all (l : Array Bool) (i : Nat) (h : l.getD i true = false) : ∀ n, i < n → 1 ≤ openN n l
  | 0, hn => by omega
  | n + 1, hn => by
    rw [openN]
    by_cases e : i = n
    · subst e; rw [h]; simp
    · have := openN_all l i h n (by omega); omega
theorem openN_new : ∀ m n, openN n (Array.replicate m false) ≤ n
  | _, 0 => Nat.le_refl _
  | m, n + 1 => by have := openN_new m n; rw [openN]; split <;> omega
section
variable {P : Program} {ops : Array Oper} {Q : Exit → Act → World → Prop} {md : Region.Mode}
theorem ready_at {l : Array Bool} {i : Nat} (h : i ∈ Region.ready md ops l) : i < ops.size ∧ l.getD i true = false ∧ ((ops[i]?).map (·.after.all fun e => !Region.binds md e || l.getD e.on false)).getD false = true := by
  unfold Region.ready at h
  rw [List.mem_filter, List.mem_range] at h
  obtain ⟨h1, h2⟩ := h
  rw [Bool.and_eq_true] at h2
  exact ⟨h1, by simpa using h2.1, h2.2⟩
theorem wpAny_inv (I : Array Bool → Act → World → Prop) (hend : ∀ l a w, I l a w → Region.ready md ops l = [] → Q .normal a w)
    (hstep : ∀ l a w i, I l a w → i ∈ Region.ready md ops l → wpOp P ops Q i (I (l.setIfInBounds i true)) a w) :
    ∀ fuel l a w, l.size = ops.size → openN ops.size l ≤ fuel → I l a w → wpAny P md ops Q fuel l a w := by
  intro fuel
  induction fuel with
  | zero =>
    intro l a w hs hf hI
    have hr : Region.ready md ops l = [] := by
      cases h : Region.ready md ops l with
      | nil => rfl
      | cons i r =>
        obtain ⟨h1, h2, _⟩ := ready_at (md := md) (ops := ops) (l := l) (i := i) (by rw [h]; exact List.mem_cons_self)
        have := openN_all l i h2 ops.size h1
        omega
    exact ⟨hr, hend l a w hI hr⟩
  | succ fuel ih =>
    intro l a w hs hf hI
    refine ⟨hend l a w hI, fun i hi => ?_⟩
    obtain ⟨h1, h2, _⟩ := ready_at hi
    have := openN_lt l i (by omega) h2 ops.size h1
    exact wpOp_mono (fun a' w' h => ih _ a' w' (by rw [Array.size_setIfInBounds]; exact hs) (by omega) h) (hstep l a w i hI hi)
/-- One operation that yields a value. -/
theorem op_value {i : Nat} {o : Oper} {K : Act → World → Prop} {a : Act} {w w' : World} {v : Value} (ho : ops[i]? = some o) (hg : o.guard = none) (hr : (execOp a.eval o).run P w = .ok (.value v) w') (h : K (a.put o.dst v) w') : wpOp P ops Q i K a w := by
  unfold wpOp
  rw [ho]
  simp only []
  rw [if_pos (by unfold Region.wanted; rw [hg])]
  left
  unfold Oper.wp
  rw [hr]
  exact h
/-- One that calls. -/
theorem op_call {i : Nat} {o : Oper} {K : Act → World → Prop} {a : Act} {w w' : World} {f : FuncId} {args : Array Value} (ho : ops[i]? = some o) (hg : o.guard = none) (hr : (execOp a.eval o).run P w = .ok (.enter f args) w')
    (h : Calls P f args w' fun e w'' => ∃ v, e = .returned v ∧ K (a.put o.dst v) w'') : wpOp P ops Q i K a w := by
  unfold wpOp
  rw [ho]
  simp only []
  rw [if_pos (by unfold Region.wanted; rw [hg])]
  left
  unfold Oper.wp
  rw [hr]
  exact Calls.mono h (fun e w'' ⟨v, he, hk⟩ => by subst he; exact hk)
end
theorem put_at (a : Act) (d : Nat) (v : Value) (h : d < a.tmps.size) : (a.put (some d) v).tmps.getD d undef = v := by
  show (a.tmps.setIfInBounds d v).getD d undef = v
  rw [Array.getD_eq_getD_getElem?, Array.getElem?_setIfInBounds, if_pos rfl, if_pos h]; rfl
theorem put_ne (a : Act) (d t : Nat) (v : Value) (h : d ≠ t) : (a.put (some d) v).tmps.getD t undef = a.tmps.getD t undef := by
  show (a.tmps.setIfInBounds d v).getD t undef = _
  rw [Array.getD_eq_getD_getElem?, Array.getD_eq_getD_getElem?, Array.getElem?_setIfInBounds, if_neg h]
theorem put_size (a : Act) (d : Nat) (v : Value) : (a.put (some d) v).tmps.size = a.tmps.size := by
  show (a.tmps.setIfInBounds d v).size = _
  rw [Array.size_setIfInBounds]
theorem put_defers (a : Act) (d : Nat) (v : Value) : (a.put (some d) v).defers = a.defers := rfl
end Go.Proofs.YtbhekkkijomglaaGreatDoor
