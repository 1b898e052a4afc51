/- Put together: VspM, ValB, VtW. -/
import Derived.Test.YtbhekkkijomglaaGreatDoorValS
import Derived.Test.YtbhekkkijomglaaGreatDoorApp
namespace Go.Proofs.YtbhekkkijomglaaGreatDoor
/-! Values in memory, in blocks of a kind; a row of values that is being grown. -/
section
open Go.RowKit

/-- A slice's value (its address) holds values, in blocks of which S holds. -/
inductive Vsp (w : World) (S : Nat → Prop) : Option Addr → List V → Prop
  | emp (A : Option Addr) : Vsp w S A []
  | row (g o : Nat) (l : List V) (A : Nat → Option Addr) (c : Nat → Nat) (hg : S g)
      (hc : ∀ (i : Nat) (x : V), l[i]? = some x → w.cell? ⟨g, o + i * 3, none⟩ = some (.int .u8 x.k) ∧ w.cell? ⟨g, o + i * 3 + 1, none⟩ = some (.int .i64 x.n) ∧ w.cell? ⟨g, o + i * 3 + 2, none⟩ = some (.slice (A i) x.l.length (c i)))
      (hz : ∀ j : Nat, w.frozen? ⟨g, j, none⟩ = false) (hs : ∀ (i : Nat) (x : V), l[i]? = some x → Vsp w S (A i) x.l) : Vsp w S (some ⟨g, o, none⟩) l
theorem frozen_of_block {w w' : World} {p : Addr} (h : w'.heap[p.block]? = w.heap[p.block]?) : w'.frozen? p = w.frozen? p := by
  unfold World.frozen?
  rw [h]
theorem Vsp.keep {w w' : World} {S S' : Nat → Prop} (hS : ∀ g, S g → S' g) (hk : ∀ k, S k → w'.heap[k]? = w.heap[k]?) {A : Option Addr} {l : List V} (h : Vsp w S A l) : Vsp w' S' A l := by
  induction h with
  | emp A => exact .emp A
  | row g o l A c hg hc hz hs ih =>
    refine .row g o l A c (hS g hg) (fun i x hx => ?_) (fun j => ?_) ih
    · obtain ⟨h1, h2, h3⟩ := hc i x hx
      exact ⟨(World.cell?_of_block (hk g hg)).trans h1, (World.cell?_of_block (hk g hg)).trans h2, (World.cell?_of_block (hk g hg)).trans h3⟩
    · exact (frozen_of_block (p := ⟨g, j, none⟩) (hk g hg)).trans (hz j)
theorem Vsp.more {w : World} {S S' : Nat → Prop} (hS : ∀ g, S g → S' g) {A : Option Addr} {l : List V} (h : Vsp w S A l) : Vsp w S' A l := h.keep hS fun _ _ => rfl
theorem Vsp.vsl {w : World} {S : Nat → Prop} {B : Nat} (hB : ∀ g, S g → g < B) {A : Option Addr} {l : List V} (h : Vsp w S A l) : Vsl w B A l := by
  induction h with
  | emp A => exact .emp A
  | row g o l A c hg hc hz hs ih => exact .row g o l A c (hB g hg) hc ih
/-- What is fresh: the blocks from B on. -/
def Fr (B : Nat) (w : World) : Nat → Prop := fun k => B ≤ k ∧ k < w.heap.size
theorem Vsp.fresh_vsl {w : World} {B : Nat} {A : Option Addr} {l : List V} (h : Vsp w (Fr B w) A l) : Vsl w w.heap.size A l := h.vsl fun _ h => h.2
/-- Fresh values stay, where but one block, that is not theirs, is changed. -/
theorem Vsp.fresh_keep {w w' : World} {B B' : Nat} {row : Option Nat} (hg : w.grownBy w' row) (hB : B' ≤ B) (hr : ∀ g, row = some g → g < B) {A : Option Addr} {l : List V} (h : Vsp w (Fr B w) A l) : Vsp w' (Fr B' w') A l :=
  h.keep (fun k hk => ⟨Nat.le_trans hB hk.1, Nat.lt_of_lt_of_le hk.2 hg.size⟩) fun k hk => hg.block k hk.2 (fun e => by have := hr k e.symm; have := hk.1; omega)

/-- Values with where their items stand. -/
abbrev VT := V × Option Addr × Nat
def vtCells (t : VT) : List Value := [.int .u8 t.1.k, .int .i64 t.1.n, .slice t.2.1 t.1.l.length t.2.2]
def vtsCells (l : List VT) : List Value := l.flatMap vtCells
theorem vtsCells_snoc (l : List VT) (t : VT) : vtsCells (l ++ [t]) = vtsCells l ++ vtCells t := by simp [vtsCells]
theorem vtsCells_length (l : List VT) : (vtsCells l).length = l.length * 3 := by
  induction l with
  | nil => rfl
  | cons m r ih =>
    have : vtsCells (m :: r) = vtCells m ++ vtsCells r := rfl
    rw [this, List.length_append, ih, List.length_cons]
    show 3 + _ = _
    omega
theorem vtsCells_at : ∀ (l : List VT) (k i : Nat) (t : VT), l[k]? = some t → i < 3 → (vtsCells l)[k * 3 + i]? = (vtCells t)[i]? := by
  intro l
  induction l with
  | nil => intro k i t h; simp at h
  | cons m r ih =>
    intro k i t h hi
    have e : vtsCells (m :: r) = vtCells m ++ vtsCells r := rfl
    rw [e]
    cases k with
    | zero =>
      simp at h
      subst h
      rw [Nat.zero_mul, Nat.zero_add, List.getElem?_append_left (by show i < 3; exact hi)]
    | succ k =>
      rw [List.getElem?_append_right (by show 3 ≤ _; omega), show (k + 1) * 3 + i - (vtCells m).length = k * 3 + i by show (k + 1) * 3 + i - 3 = _; omega]
      exact ih k i t (by simpa using h) hi

/-- A row of values that is being grown: owned, and each one's items in fresh blocks that are not the row. -/
structure Grow (T : TypeId) (B : Nat) (v : Value) (l : List VT) (w : World) : Prop where
  own : w.ownsRow B T 3 v l.length (vtsCells l)
  sub : ∀ t ∈ l, Vsp w (fun k => Fr B w k ∧ v.ownBlock ≠ some k) t.2.1 t.1.l
theorem Grow.start (T : TypeId) (w : World) : Grow T w.heap.size (.slice none 0 0) [] w := ⟨World.ownsRow_nil _ _ _ _, fun _ h => by cases h⟩
theorem own_only {B : Nat} {e : TypeId} {k : Nat} {v : Value} {n : Nat} {xs : List Value} {w w' : World} {row : Option Nat} (h : w.ownsRow B e k v n xs) (hb : w.grownBy w' row) (hr : ∀ g, row = some g → v.ownBlock ≠ some g) : w'.ownsRow B e k v n xs :=
  h.kept (row := row) hb (by
    cases hv : v.ownBlock with
    | none => exact .inl rfl
    | some g => exact .inr fun e => hr g e.symm hv)
theorem Grow.only {T : TypeId} {B : Nat} {v : Value} {l : List VT} {w w' : World} {row : Option Nat} (h : Grow T B v l w) (hb : w.grownBy w' row) (hr : ∀ g, row = some g → g < B) : Grow T B v l w' :=
  ⟨own_only h.own hb (fun g e q => by have := hr g e; have := (h.own.lt g q).1; omega),
   fun t ht => (h.sub t ht).keep (fun k hk => ⟨⟨hk.1.1, Nat.lt_of_lt_of_le hk.1.2 hb.size⟩, hk.2⟩) fun k hk => hb.block k hk.1.2 (fun e => by have := hr k e.symm; have := hk.1.1; omega)⟩
theorem Grow.below {T : TypeId} {B : Nat} {v : Value} {l : List VT} {w w' : World} (h : Grow T B v l w) (hb : Below w.heap.size w w') : Grow T B v l w' :=
  h.only (row := none) ⟨hb.os, hb.tape, hb.output, hb.size, fun i hi _ => hb.block i hi⟩ (fun _ e => by cases e)
/-- One more. -/
theorem Grow.snoc {T : TypeId} {B : Nat} {v v' : Value} {l : List VT} {t : VT} {w w' : World} (h : Grow T B v l w) (ht : Vsp w (fun k => Fr B w k ∧ v.ownBlock ≠ some k) t.2.1 t.1.l)
    (hown : w'.ownsRow B T 3 v' (l.length + 1) (vtsCells l ++ vtCells t)) (hg : w.grownBy w' v.ownBlock) (hv : v'.ownBlock = v.ownBlock ∨ v'.ownBlock = some w.heap.size) : Grow T B v' (l ++ [t]) w' := by
  have hS : ∀ k, (Fr B w k ∧ v.ownBlock ≠ some k) → (Fr B w' k ∧ v'.ownBlock ≠ some k) := fun k hk => ⟨⟨hk.1.1, Nat.lt_of_lt_of_le hk.1.2 hg.size⟩, by
    rcases hv with e | e
    · rw [e]; exact hk.2
    · rw [e]; intro q; have := hk.1.2; injection q with q; omega⟩
  refine ⟨by rw [vtsCells_snoc, List.length_append]; exact hown, fun u hu => ?_⟩
  have hu2 : Vsp w (fun k => Fr B w k ∧ v.ownBlock ≠ some k) u.2.1 u.1.l := by
    rcases List.mem_append.1 hu with hu | hu
    · exact h.sub u hu
    · obtain rfl : u = t := by simpa using hu
      exact ht
  exact hu2.keep hS fun k hk => hg.block k hk.1.2 (fun e => hk.2 e.symm)
theorem add_from (g n : Nat) : (⟨g, 0, none⟩ : Addr).add n = ⟨g, n, none⟩ := by
  unfold Addr.add
  split
  · rename_i h; subst h; rfl
  · simp
/-- The row, when it is grown. -/
theorem Grow.done {T : TypeId} {B : Nat} {A : Option Addr} {n c : Nat} {l : List VT} {w : World} (h : Grow T B (.slice A n c) l w) : Vsp w (Fr B w) A (l.map (·.1)) ∧ n = l.length := by
  have hn : n = l.length := by
    rcases h.own.2 with ⟨e, e2⟩ | ⟨g, cap, cur, e, _⟩
    · injection e with _ e _; omega
    · injection e
  refine ⟨?_, hn⟩
  subst hn
  have hr := Reads.of_own h.own
  rcases Nat.eq_zero_or_pos l.length with h0 | h0
  · have : l = [] := List.eq_nil_of_length_eq_zero h0
    subst this
    exact .emp A
  · obtain ⟨ad, rfl, hlt, hc⟩ := hr.2 h0
    have hob : ∃ g, ad = ⟨g, 0, none⟩ ∧ B ≤ g ∧ g < w.heap.size ∧ ∀ j : Nat, w.frozen? ⟨g, j, none⟩ = false := by
      rcases h.own.2 with ⟨e, e2⟩ | ⟨g, cap, cur, e, _⟩
      · injection e with e _ _; cases e
      · injection e with e _ _
        injection e with e
        subst e
        exact ⟨g, rfl, (h.own.lt g rfl).1, (h.own.lt g rfl).2, fun j => h.own.frozenAt j⟩
    obtain ⟨g, rfl, hg1, hg2, hfz⟩ := hob
    have hget : ∀ (i : Nat) (x : V), (l.map (·.1))[i]? = some x → ∃ t, l[i]? = some t ∧ t.1 = x := by
      intro i x hx
      rw [List.getElem?_map] at hx
      cases ht : l[i]? with
      | none => rw [ht] at hx; cases hx
      | some t => rw [ht] at hx; exact ⟨t, rfl, by simpa using hx⟩
    refine .row g 0 _ (fun i => (l[i]?.map (·.2.1)).getD none) (fun i => (l[i]?.map (·.2.2)).getD 0) ⟨hg1, hg2⟩ (fun i x hx => ?_) hfz (fun i x hx => ?_)
    · obtain ⟨t, ht, rfl⟩ := hget i x hx
      have h0 := hc (i * 3 + 0) _ (by rw [vtsCells_at l i 0 t ht (by omega)]; rfl)
      have h1 := hc (i * 3 + 1) _ (by rw [vtsCells_at l i 1 t ht (by omega)]; rfl)
      have h2 := hc (i * 3 + 2) _ (by rw [vtsCells_at l i 2 t ht (by omega)]; rfl)
      simp only [ht, Option.map_some, Option.getD_some, Nat.zero_add]
      rw [add_from] at h0 h1 h2
      exact ⟨h0, h1, h2⟩
    · obtain ⟨t, ht, rfl⟩ := hget i x hx
      simp only [ht, Option.map_some, Option.getD_some]
      exact (h.sub t (List.mem_of_getElem? ht)).more fun k hk => hk.1
end

/-! The walks of Num, Bool, and of Tuple and List of nothing. -/
section
open Go.RowKit

theorem num_any (n : Int) (w : World) : Calls Tryz.prog 91 #[.int .i64 n] w fun e w' => e = .returned (vAgg (.mk 1 n []) none 0) ∧ Below w.heap.size w w' := by
  have hb0 : Hid (∀ o, Below w.heap.size w (w.alloc o)) := fun o => (Below.refl w.heap.size w).alloc (Nat.le_refl _) o
  go_enter Tryz.func91, Tryz.ntmps91
  go_wp2_with fail
  refine bodyPost_ret (v := .agg #[.int .u8 1, .int .i64 n, .slice none 0 0]) (by simp [results, Tryz.results91, go_sem]) rfl ⟨rfl, ?_⟩
  first | exact hb0.out _ | exact Below.refl _ _

theorem copies_nil (A : Option Addr) (c : Nat) (w : World) : Calls Tryz.prog 40 #[.slice A 0 c] w fun e w' => e = .returned (.slice none 0 0) ∧ w = w' := by
  go_enter Tryz.func40, Tryz.ntmps40
  go_wp2_with fail
  go_ret
  exact ⟨rfl, rfl⟩

theorem tuple_nil (A : Option Addr) (c : Nat) (w : World) : Calls Tryz.prog 24 #[.slice A 0 c] w fun e w' => e = .returned (vAgg (.mk 3 0 []) none 0) ∧ Below w.heap.size w w' := by
  have hb0 : Hid (∀ o, Below w.heap.size w (w.alloc o)) := fun o => (Below.refl w.heap.size w).alloc (Nat.le_refl _) o
  have HC := Lib.hid (fun W => copies_nil A c W)
  go_enter Tryz.func24, Tryz.ntmps24
  go_wp2_with (go_at_call 40; refine (HC.out _).mono ?_; rintro e w' ⟨rfl, rfl⟩)
  refine bodyPost_ret (v := .agg #[.int .u8 3, .int .i64 0, .slice none 0 0]) (by simp [results, Tryz.results24, go_sem]) rfl ⟨rfl, ?_⟩
  first | exact hb0.out _ | exact Below.refl _ _

theorem list_nil (A : Option Addr) (c : Nat) (w : World) : Calls Tryz.prog 23 #[.slice A 0 c] w fun e w' => e = .returned (vAgg (.mk 4 0 []) none 0) ∧ Below w.heap.size w w' := by
  have hb0 : Hid (∀ o, Below w.heap.size w (w.alloc o)) := fun o => (Below.refl w.heap.size w).alloc (Nat.le_refl _) o
  have HC := Lib.hid (fun W => copies_nil A c W)
  go_enter Tryz.func23, Tryz.ntmps23
  go_wp2_with (go_at_call 40; refine (HC.out _).mono ?_; rintro e w' ⟨rfl, rfl⟩)
  refine bodyPost_ret (v := .agg #[.int .u8 4, .int .i64 0, .slice none 0 0]) (by simp [results, Tryz.results23, go_sem]) rfl ⟨rfl, ?_⟩
  first | exact hb0.out _ | exact Below.refl _ _

theorem bool_any (b : Bool) (w : World) : Calls Tryz.prog 92 #[.bool b] w fun e w' => e = .returned (vAgg (.mk 2 (if b then 1 else 0) []) none 0) ∧ Below w.heap.size w w' := by
  have hb0 : Hid (∀ o, Below w.heap.size w (w.alloc o)) := fun o => (Below.refl w.heap.size w).alloc (Nat.le_refl _) o
  cases b
  · go_enter Tryz.func92, Tryz.ntmps92
    go_wp2_with fail
    refine bodyPost_ret (v := .agg #[.int .u8 2, .int .i64 0, .slice none 0 0]) (by simp [results, Tryz.results92, go_sem]) rfl ⟨rfl, ?_⟩
    exact (hb0.out _).alloc (hb0.out _).size _
  · go_enter Tryz.func92, Tryz.ntmps92
    go_wp2_with fail
    refine bodyPost_ret (v := .agg #[.int .u8 2, .int .i64 1, .slice none 0 0]) (by simp [results, Tryz.results92, go_sem]) rfl ⟨rfl, ?_⟩
    exact (hb0.out _).alloc (hb0.out _).size _
end

/-! The walks of the texts' small functions: brackets, shuts. -/
section
open Go.RowKit

theorem brackets_tuple (w : World) : Calls Tryz.prog 45 #[.int .u8 3] w fun e w' => e = .returned (.agg #[.string ⟨#[60]⟩, .string ⟨#[62]⟩, .int .u8 5, .int .u8 6]) ∧ Below w.heap.size w w' := by
  have hb0 : Hid (∀ o, Below w.heap.size w (w.alloc o)) := fun o => (Below.refl w.heap.size w).alloc (Nat.le_refl _) o
  go_enter Tryz.func45, Tryz.ntmps45
  go_wp2_with fail
  refine bodyPost_ret (v := .agg #[.string ⟨#[60]⟩, .string ⟨#[62]⟩, .int .u8 5, .int .u8 6]) (by simp [results, Tryz.results45, go_sem]) rfl ⟨rfl, ?_⟩
  exact hb0.out _
theorem brackets_list (w : World) (k : Nat) (hk : k ≠ 3) : Calls Tryz.prog 45 #[.int .u8 k] w fun e w' => e = .returned (.agg #[.string ⟨#[91]⟩, .string ⟨#[93]⟩, .int .u8 3, .int .u8 4]) ∧ Below w.heap.size w w' := by
  have hb0 : Hid (∀ o, Below w.heap.size w (w.alloc o)) := fun o => (Below.refl w.heap.size w).alloc (Nat.le_refl _) o
  have hk3 : ((k : Int) == 3) = false := beq_eq_false_iff_ne.2 (by omega)
  go_enter Tryz.func45, Tryz.ntmps45
  go_wp2_with fail
  refine bodyPost_ret (v := .agg #[.string ⟨#[91]⟩, .string ⟨#[93]⟩, .int .u8 3, .int .u8 4]) (by simp [results, Tryz.results45, go_sem]) rfl ⟨rfl, ?_⟩
  exact hb0.out _
end
end Go.Proofs.YtbhekkkijomglaaGreatDoor
