/- Put together: VspM, RtB, RtH. -/
import Derived.Test.YtbhekkkijomglaaGreatDoorValMZ
import Derived.Test.YtbhekkkijomglaaGreatDoorRtA
import Derived.Test.YtbhekkkijomglaaGreatDoorVtU
namespace Go.Proofs.YtbhekkkijomglaaGreatDoor
/-! Values in memory, in blocks of a kind; a row of values that is being grown. -/
section
open Go.RowKit

/-- A slice's value (its address) holds values, in blocks of which S holds. -/
inductive Vsp (w : World) (S : Nat → Prop) : Option Addr → List V → Prop
  | emp (A : Option Addr) : Vsp w S A []
  | row (g o : Nat) (l : List V) (A : Nat → Option Addr) (c : Nat → Nat) (hg : S g)
      (hc : ∀ (i : Nat) (x : V), l[i]? = some x → w.cell? ⟨g, o + i * 3, none⟩ = some (.int .u8 x.k) ∧ w.cell? ⟨g, o + i * 3 + 1, none⟩ = some (.int .i64 x.n) ∧ w.cell? ⟨g, o + i * 3 + 2, none⟩ = some (.slice (A i) x.l.length (c i)))
      (hz : ∀ j : Nat, w.frozen? ⟨g, j, none⟩ = false) (hs : ∀ (i : Nat) (x : V), l[i]? = some x → Vsp w S (A i) x.l) : Vsp w S (some ⟨g, o, none⟩) l
theorem frozen_of_block {w w' : World} {p : Addr} (h : w'.heap[p.block]? = w.heap[p.block]?) : w'.frozen? p = w.frozen? p := by
  unfold World.frozen?
  rw [h]
theorem Vsp.keep {w w' : World} {S S' : Nat → Prop} (hS : ∀ g, S g → S' g) (hk : ∀ k, S k → w'.heap[k]? = w.heap[k]?) {A : Option Addr} {l : List V} (h : Vsp w S A l) : Vsp w' S' A l := by
  induction h with
  | emp A => exact .emp A
  | row g o l A c hg hc hz hs ih =>
    refine .row g o l A c (hS g hg) (fun i x hx => ?_) (fun j => ?_) ih
    · obtain ⟨h1, h2, h3⟩ := hc i x hx
      exact ⟨(World.cell?_of_block (hk g hg)).trans h1, (World.cell?_of_block (hk g hg)).trans h2, (World.cell?_of_block (hk g hg)).trans h3⟩
    · exact (frozen_of_block (p := ⟨g, j, none⟩) (hk g hg)).trans (hz j)
theorem Vsp.more {w : World} {S S' : Nat → Prop} (hS : ∀ g, S g → S' g) {A : Option Addr} {l : List V} (h : Vsp w S A l) : Vsp w S' A l := h.keep hS fun _ _ => rfl
theorem Vsp.vsl {w : World} {S : Nat → Prop} {B : Nat} (hB : ∀ g, S g → g < B) {A : Option Addr} {l : List V} (h : Vsp w S A l) : Vsl w B A l := by
  induction h with
  | emp A => exact .emp A
  | row g o l A c hg hc hz hs ih => exact .row g o l A c (hB g hg) hc ih
/-- What is fresh: the blocks from B on. -/
def Fr (B : Nat) (w : World) : Nat → Prop := fun k => B ≤ k ∧ k < w.heap.size
theorem Vsp.fresh_vsl {w : World} {B : Nat} {A : Option Addr} {l : List V} (h : Vsp w (Fr B w) A l) : Vsl w w.heap.size A l := h.vsl fun _ h => h.2
/-- Fresh values stay, where but one block, that is not theirs, is changed. -/
theorem Vsp.fresh_keep {w w' : World} {B B' : Nat} {row : Option Nat} (hg : w.grownBy w' row) (hB : B' ≤ B) (hr : ∀ g, row = some g → g < B) {A : Option Addr} {l : List V} (h : Vsp w (Fr B w) A l) : Vsp w' (Fr B' w') A l :=
  h.keep (fun k hk => ⟨Nat.le_trans hB hk.1, Nat.lt_of_lt_of_le hk.2 hg.size⟩) fun k hk => hg.block k hk.2 (fun e => by have := hr k e.symm; have := hk.1; omega)

/-- Values with where their items stand. -/
abbrev VT := V × Option Addr × Nat
def vtCells (t : VT) : List Value := [.int .u8 t.1.k, .int .i64 t.1.n, .slice t.2.1 t.1.l.length t.2.2]
def vtsCells (l : List VT) : List Value := l.flatMap vtCells
theorem vtsCells_snoc (l : List VT) (t : VT) : vtsCells (l ++ [t]) = vtsCells l ++ vtCells t := by simp [vtsCells]
theorem vtsCells_length (l : List VT) : (vtsCells l).length = l.length * 3 := by
  induction l with
  | nil => rfl
  | cons m r ih =>
    have : vtsCells (m :: r) = vtCells m ++ vtsCells r := rfl
    rw [this, List.length_append, ih, List.length_cons]
    show 3 + _ = _
    omega
theorem vtsCells_at : ∀ (l : List VT) (k i : Nat) (t : VT), l[k]? = some t → i < 3 → (vtsCells l)[k * 3 + i]? = (vtCells t)[i]? := by
  intro l
  induction l with
  | nil => intro k i t h; simp at h
  | cons m r ih =>
    intro k i t h hi
    have e : vtsCells (m :: r) = vtCells m ++ vtsCells r := rfl
    rw [e]
    cases k with
    | zero =>
      simp at h
      subst h
      rw [Nat.zero_mul, Nat.zero_add, List.getElem?_append_left (by show i < 3; exact hi)]
    | succ k =>
      rw [List.getElem?_append_right (by show 3 ≤ _; omega), show (k + 1) * 3 + i - (vtCells m).length = k * 3 + i by show (k + 1) * 3 + i - 3 = _; omega]
      exact ih k i t (by simpa using h) hi

/-- A row of values that is being grown: owned, and each one's items in fresh blocks that are not the row. -/
structure Grow (T : TypeId) (B : Nat) (v : Value) (l : List VT) (w : World) : Prop where
  own : w.ownsRow B T 3 v l.length (vtsCells l)
  sub : ∀ t ∈ l, Vsp w (fun k => Fr B w k ∧ v.ownBlock ≠ some k) t.2.1 t.1.l
theorem Grow.start (T : TypeId) (w : World) : Grow T w.heap.size (.slice none 0 0) [] w := ⟨World.ownsRow_nil _ _ _ _, fun _ h => by cases h⟩
theorem own_only {B : Nat} {e : TypeId} {k : Nat} {v : Value} {n : Nat} {xs : List Value} {w w' : World} {row : Option Nat} (h : w.ownsRow B e k v n xs) (hb : w.grownBy w' row) (hr : ∀ g, row = some g → v.ownBlock ≠ some g) : w'.ownsRow B e k v n xs :=
  h.kept (row := row) hb (by
    cases hv : v.ownBlock with
    | none => exact .inl rfl
    | some g => exact .inr fun e => hr g e.symm hv)
theorem Grow.only {T : TypeId} {B : Nat} {v : Value} {l : List VT} {w w' : World} {row : Option Nat} (h : Grow T B v l w) (hb : w.grownBy w' row) (hr : ∀ g, row = some g → g < B) : Grow T B v l w' :=
  ⟨own_only h.own hb (fun g e q => by have := hr g e; have := (h.own.lt g q).1; omega),
   fun t ht => (h.sub t ht).keep (fun k hk => ⟨⟨hk.1.1, Nat.lt_of_lt_of_le hk.1.2 hb.size⟩, hk.2⟩) fun k hk => hb.block k hk.1.2 (fun e => by have := hr k e.symm; have := hk.1.1; omega)⟩
theorem Grow.below {T : TypeId} {B : Nat} {v : Value} {l : List VT} {w w' : World} (h : Grow T B v l w) (hb : Below w.heap.size w w') : Grow T B v l w' :=
  h.only (row := none) ⟨hb.os, hb.tape, hb.output, hb.size, fun i hi _ => hb.block i hi⟩ (fun _ e => by cases e)
/-- One more. -/
theorem Grow.snoc {T : TypeId} {B : Nat} {v v' : Value} {l : List VT} {t : VT} {w w' : World} (h : Grow T B v l w) (ht : Vsp w (fun k => Fr B w k ∧ v.ownBlock ≠ some k) t.2.1 t.1.l)
    (hown : w'.ownsRow B T 3 v' (l.length + 1) (vtsCells l ++ vtCells t)) (hg : w.grownBy w' v.ownBlock) (hv : v'.ownBlock = v.ownBlock ∨ v'.ownBlock = some w.heap.size) : Grow T B v' (l ++ [t]) w' := by
  have hS : ∀ k, (Fr B w k ∧ v.ownBlock ≠ some k) → (Fr B w' k ∧ v'.ownBlock ≠ some k) := fun k hk => ⟨⟨hk.1.1, Nat.lt_of_lt_of_le hk.1.2 hg.size⟩, by
    rcases hv with e | e
    · rw [e]; exact hk.2
    · rw [e]; intro q; have := hk.1.2; injection q with q; omega⟩
  refine ⟨by rw [vtsCells_snoc, List.length_append]; exact hown, fun u hu => ?_⟩
  have hu2 : Vsp w (fun k => Fr B w k ∧ v.ownBlock ≠ some k) u.2.1 u.1.l := by
    rcases List.mem_append.1 hu with hu | hu
    · exact h.sub u hu
    · obtain rfl : u = t := by simpa using hu
      exact ht
  exact hu2.keep hS fun k hk => hg.block k hk.1.2 (fun e => hk.2 e.symm)
theorem add_from (g n : Nat) : (⟨g, 0, none⟩ : Addr).add n = ⟨g, n, none⟩ := by
  unfold Addr.add
  split
  · rename_i h; subst h; rfl
  · simp
/-- The row, when it is grown. -/
theorem Grow.done {T : TypeId} {B : Nat} {A : Option Addr} {n c : Nat} {l : List VT} {w : World} (h : Grow T B (.slice A n c) l w) : Vsp w (Fr B w) A (l.map (·.1)) ∧ n = l.length := by
  have hn : n = l.length := by
    rcases h.own.2 with ⟨e, e2⟩ | ⟨g, cap, cur, e, _⟩
    · injection e with _ e _; omega
    · injection e
  refine ⟨?_, hn⟩
  subst hn
  have hr := Reads.of_own h.own
  rcases Nat.eq_zero_or_pos l.length with h0 | h0
  · have : l = [] := List.eq_nil_of_length_eq_zero h0
    subst this
    exact .emp A
  · obtain ⟨ad, rfl, hlt, hc⟩ := hr.2 h0
    have hob : ∃ g, ad = ⟨g, 0, none⟩ ∧ B ≤ g ∧ g < w.heap.size ∧ ∀ j : Nat, w.frozen? ⟨g, j, none⟩ = false := by
      rcases h.own.2 with ⟨e, e2⟩ | ⟨g, cap, cur, e, _⟩
      · injection e with e _ _; cases e
      · injection e with e _ _
        injection e with e
        subst e
        exact ⟨g, rfl, (h.own.lt g rfl).1, (h.own.lt g rfl).2, fun j => h.own.frozenAt j⟩
    obtain ⟨g, rfl, hg1, hg2, hfz⟩ := hob
    have hget : ∀ (i : Nat) (x : V), (l.map (·.1))[i]? = some x → ∃ t, l[i]? = some t ∧ t.1 = x := by
      intro i x hx
      rw [List.getElem?_map] at hx
      cases ht : l[i]? with
      | none => rw [ht] at hx; cases hx
      | some t => rw [ht] at hx; exact ⟨t, rfl, by simpa using hx⟩
    refine .row g 0 _ (fun i => (l[i]?.map (·.2.1)).getD none) (fun i => (l[i]?.map (·.2.2)).getD 0) ⟨hg1, hg2⟩ (fun i x hx => ?_) hfz (fun i x hx => ?_)
    · obtain ⟨t, ht, rfl⟩ := hget i x hx
      have h0 := hc (i * 3 + 0) _ (by rw [vtsCells_at l i 0 t ht (by omega)]; rfl)
      have h1 := hc (i * 3 + 1) _ (by rw [vtsCells_at l i 1 t ht (by omega)]; rfl)
      have h2 := hc (i * 3 + 2) _ (by rw [vtsCells_at l i 2 t ht (by omega)]; rfl)
      simp only [ht, Option.map_some, Option.getD_some, Nat.zero_add]
      rw [add_from] at h0 h1 h2
      exact ⟨h0, h1, h2⟩
    · obtain ⟨t, ht, rfl⟩ := hget i x hx
      simp only [ht, Option.map_some, Option.getD_some]
      exact (h.sub t (List.mem_of_getElem? ht)).more fun k hk => hk.1
end

/-! The walk of the reference's value: what is wrong ahead. -/
section
open Go.RowKit

abbrev zvR : Obj := .cells #[.int .u8 0, .int .i64 0, .slice none 0 0] 24

set_option maxRecDepth 100000 in
set_option maxHeartbeats 4000000 in
theorem tvalue_next (s : ByteArray) (a m deep item : Nat) (g : Nat) (w : World) (hs : s.size ≤ 20000) (ha : a ≤ s.size) (hk : TxB w g s a m 0 0) (kk b d : Nat) (n : Int) (l : List UInt8) (pl er : Nat) (her : er ≠ 0) (hx : nx s.data.toList a = ((kk, b, d, n, l), pl, er)) :
    Calls Tryz.prog 37 #[.pointer (some ⟨g, 0, none⟩), .int .i64 deep, .int .i64 item] w fun en w' => en = .returned (.agg #[.int .u8 0, .int .i64 0, .slice none 0 0]) ∧ TxB w' g s a m pl er ∧ w.grownBy w' (some g) := by
  have HM := Lib.hid (fun W hK => tmark_bad true s a m 0 g W hs ha hK kk b d n l pl er her hx)
  have e1 : ((er : Int) == 0) = false := beq_eq_false_iff_ne.2 (by omega)
  have e2 : ((er : Int) != 0) = true := bne_iff_ne.2 (by omega)
  clear hx her
  go_enter Tryz.func37, Tryz.ntmps37
  go_wp2_with fail
  refine (HM.out _ (hk.alloc zvR)).mono ?_
  rintro e' w1 ⟨rfl, hB, hg⟩
  have hrl := hk.lt
  have kR := (Blk.new w 24 #[.int .u8 0, .int .i64 0, .slice none 0 0]).grown hg (fun q => by injection q with q; omega)
  have kM : Blk (w1.alloc (.cells #[.int .u8 kk, .int .i64 b, .int .i64 d, .int .i64 n, .string (bs l)] 67)) g 72 #[.string s, .int .i64 a, .int .i64 m, .int .i64 pl, .int .i64 er] := hB.alloc _
  obtain ⟨⟨c0, c1, c2, c3, c4⟩, f0, f1, f2, f3, f4⟩ := kM.five
  have kR1 := kR.alloc (.cells #[.int .u8 kk, .int .i64 b, .int .i64 d, .int .i64 n, .string (bs l)] 67)
  obtain ⟨⟨z0, z1, z2⟩, g0, g1, g2⟩ := kR1.three
  have HR := Lib.hid (And.intro kM (And.intro (only_alloc (only_trans (only_alloc (only_refl w (some g)) zvR) hg) (.cells #[.int .u8 kk, .int .i64 b, .int .i64 d, .int .i64 n, .string (bs l)] 67)) hrl))
  clear hB hg kR kM kR1 HM hk
  go_wp2_with fail
  refine bodyPost_ret (v := .agg #[.int .u8 0, .int .i64 0, .slice none 0 0]) (by simp [results, Tryz.results37, go_sem, z0, z1, z2]) rfl ⟨rfl, ?_, ?_⟩
  · have hrl := HR.out.2.2
    have e : ∀ i, g ≠ (⟨w.heap.size, i, none⟩ : Addr).block := fun i => by show g ≠ w.heap.size; omega
    exact ((HR.out.1.far (e 0) _).far (e 1) _).far (e 2) _
  · have e : ∀ i, (⟨w.heap.size, i, none⟩ : Addr).block = g ∨ w.heap.size ≤ (⟨w.heap.size, i, none⟩ : Addr).block := fun i => .inr (Nat.le_refl _)
    exact only_setCell (only_setCell (only_setCell HR.out.2.1 (e 0) _) (e 1) _) (e 2) _

/-- What holds behind the switch: the text's block, the mark's, the value's, the result's. -/
structure Sv (w W : World) (g M V9 : Nat) (s : ByteArray) (kk b d : Nat) (n : Int) (l : List UInt8) (bk : Nat) (bn : Int) (m e : Int) : Prop where
  kT : TxB W g s d m (if e = 0 then 0 else (b : Int)) e
  kM : Blk W M 67 #[.int .u8 kk, .int .i64 b, .int .i64 d, .int .i64 n, .string (bs l)]
  kV : Blk W V9 24 #[.int .u8 bk, .int .i64 bn, .slice none 0 0]
  kR : Blk W w.heap.size 24 #[.int .u8 0, .int .i64 0, .slice none 0 0]
  g0 : w.grownBy W (some g)
  hr : g < w.heap.size
  hM : w.heap.size < M
  hV : M < V9
/-- The cells that are read. -/
def SvC (w W : World) (g M V9 : Nat) (b : Nat) (bk : Nat) (bn : Int) (m e : Int) : Prop :=
  (W.cell? ⟨g, 2, none⟩ = some (.int .i64 m) ∧ W.cell? ⟨g, 4, none⟩ = some (.int .i64 e) ∧ W.frozen? ⟨g, 2, none⟩ = false) ∧ (W.cell? ⟨M, 1, none⟩ = some (.int .i64 b)) ∧
  (W.cell? ⟨V9, 0, none⟩ = some (.int .u8 bk) ∧ W.cell? ⟨V9, 1, none⟩ = some (.int .i64 bn) ∧ W.cell? ⟨V9, 2, none⟩ = some (.slice none 0 0)) ∧
  (W.cell? ⟨w.heap.size, 0, none⟩ = some (.int .u8 0) ∧ W.cell? ⟨w.heap.size, 1, none⟩ = some (.int .i64 0) ∧ W.cell? ⟨w.heap.size, 2, none⟩ = some (.slice none 0 0)) ∧
  (W.frozen? ⟨w.heap.size, 0, none⟩ = false ∧ W.frozen? ⟨w.heap.size, 1, none⟩ = false ∧ W.frozen? ⟨w.heap.size, 2, none⟩ = false)
theorem Sv.cells {w W : World} {g M V9 : Nat} {s : ByteArray} {kk b d : Nat} {n : Int} {l : List UInt8} {bk : Nat} {bn : Int} {m e : Int} (h : Sv w W g M V9 s kk b d n l bk bn m e) : SvC w W g M V9 b bk bn m e :=
  ⟨⟨h.kT.cell 2, h.kT.cell 4, h.kT.frozen 2⟩, h.kM.cell 1, h.kV.three.1, h.kR.three.1, h.kR.three.2⟩
theorem Sv.many {w W : World} {g M V9 : Nat} {s : ByteArray} {kk b d : Nat} {n : Int} {l : List UInt8} {bk : Nat} {bn : Int} {m e : Int} (h : Sv w W g M V9 s kk b d n l bk bn m e) (m' : Int) : Sv w (W.setCell ⟨g, 2, none⟩ (.int .i64 m')) g M V9 s kk b d n l bk bn m' e :=
  ⟨h.kT.set_ 2 _, h.kM.far (p := ⟨g, 2, none⟩) (by have := h.hr; have := h.hM; show M ≠ g; omega) _, h.kV.far (p := ⟨g, 2, none⟩) (by have := h.hr; have := h.hM; have := h.hV; show V9 ≠ g; omega) _, h.kR.far (p := ⟨g, 2, none⟩) (by have := h.hr; show w.heap.size ≠ g; omega) _,
    only_setCell h.g0 (p := ⟨g, 2, none⟩) (.inl rfl) _, h.hr, h.hM, h.hV⟩
theorem Sv.grown {w W : World} {g M V9 : Nat} {s : ByteArray} {kk b d : Nat} {n : Int} {l : List UInt8} {bk : Nat} {bn : Int} {m e : Int} {W' : World} {m' e' : Int} (h : Sv w W g M V9 s kk b d n l bk bn m e) (hg : W.grownBy W' (some g)) (hT : TxB W' g s d m' (if e' = 0 then 0 else (b : Int)) e') : Sv w W' g M V9 s kk b d n l bk bn m' e' :=
  ⟨hT, h.kM.grown hg (fun q => by injection q with q; have := h.hr; have := h.hM; omega), h.kV.grown hg (fun q => by injection q with q; have := h.hr; have := h.hM; have := h.hV; omega), h.kR.grown hg (fun q => by injection q with q; have := h.hr; omega), only_trans h.g0 hg, h.hr, h.hM, h.hV⟩
/-- The end of a value that is refused. -/
theorem Sv.bad {w W : World} {g M V9 : Nat} {s : ByteArray} {kk b d : Nat} {n : Int} {l : List UInt8} {bk : Nat} {bn : Int} {m e : Int} (h : Sv w W g M V9 s kk b d n l bk bn m e) (he : e ≠ 0) (u v x : Value) :
    TxB (((W.setCell ⟨w.heap.size, 0, none⟩ u).setCell ⟨w.heap.size, 1, none⟩ v).setCell ⟨w.heap.size, 2, none⟩ x) g s d m b e ∧ w.grownBy (((W.setCell ⟨w.heap.size, 0, none⟩ u).setCell ⟨w.heap.size, 1, none⟩ v).setCell ⟨w.heap.size, 2, none⟩ x) (some g) := by
  have hr := h.hr
  have hT := h.kT
  rw [if_neg he] at hT
  have e0 : ∀ i, g ≠ (⟨w.heap.size, i, none⟩ : Addr).block := fun i => by show g ≠ w.heap.size; omega
  have e1 : ∀ i, (⟨w.heap.size, i, none⟩ : Addr).block = g ∨ w.heap.size ≤ (⟨w.heap.size, i, none⟩ : Addr).block := fun i => .inr (Nat.le_refl _)
  exact ⟨((hT.far (e0 0) _).far (e0 1) _).far (e0 2) _, only_setCell (only_setCell (only_setCell h.g0 (e1 0) _) (e1 1) _) (e1 2) _⟩
theorem sv_fail {w W : World} {g M V9 : Nat} {s : ByteArray} {kk b d : Nat} {n : Int} {l : List UInt8} {bk : Nat} {bn : Int} {m e : Int} (er : Int) (h : Sv w W g M V9 s kk b d n l bk bn m e) (z : Int) (hz : (e = 0 ∧ z = er ∧ er ≠ 0) ∨ (e ≠ 0 ∧ z = e)) :
    Calls Tryz.prog 56 #[.pointer (some ⟨g, 0, none⟩), .int .i64 b, .int .i64 er] W fun en w' => en = .returned (.tuple #[]) ∧ SvC w w' g M V9 b bk bn m z ∧ Hid (Sv w w' g M V9 s kk b d n l bk bn m z) := by
  rcases hz with ⟨rfl, rfl, h0⟩ | ⟨h0, rfl⟩
  · have hT := h.kT
    rw [if_pos rfl] at hT
    refine (tfail_first s d m 0 b z g W hT).mono fun en w' ⟨h1, h2, h3⟩ => ?_
    have h4 : Sv w w' g M V9 s kk b d n l bk bn m z := h.grown h3 (by rw [if_neg h0]; exact h2)
    exact ⟨h1, h4.cells, h4⟩
  · refine (tfail_more s d m _ b er z g W h0 h.kT).mono fun en w' ⟨h1, h2, h3⟩ => ?_
    have h4 : Sv w w' g M V9 s kk b d n l bk bn m z := h.grown h3 h2
    exact ⟨h1, h4.cells, h4⟩
theorem sv_start {w w1 : World} {g : Nat} {s : ByteArray} {kk b d : Nat} {n : Int} {l : List UInt8} {m : Int} (hk : g < w.heap.size) (hB : TxB w1 g s d m 0 0) (hg : (w.alloc zvR).grownBy w1 (some g)) (bk : Nat) (bn : Int) :
    Sv w ((w1.alloc (.cells #[.int .u8 kk, .int .i64 b, .int .i64 d, .int .i64 n, .string (bs l)] 67)).alloc (.cells #[.int .u8 bk, .int .i64 bn, .slice none 0 0] 24)) g w1.heap.size (w1.heap.size + 1) s kk b d n l bk bn m 0 := by
  have hs := hg.size
  rw [World.size_alloc] at hs
  have kR := (Blk.new w 24 #[.int .u8 0, .int .i64 0, .slice none 0 0]).grown hg (fun q => by injection q with q; omega)
  have kV := Blk.new (w1.alloc (.cells #[.int .u8 kk, .int .i64 b, .int .i64 d, .int .i64 n, .string (bs l)] 67)) 24 #[.int .u8 bk, .int .i64 bn, .slice none 0 0]
  rw [World.size_alloc] at kV
  exact ⟨by rw [if_pos rfl]; exact (hB.alloc _).alloc _, (Blk.new w1 _ _).alloc _, kV, (kR.alloc _).alloc _, only_alloc (only_alloc (only_trans (only_alloc (only_refl w (some g)) zvR) hg) _) _, hk, by omega, by omega⟩
end

/-! The walk of the reference's value: what is wrong of the value that a mark begins. -/
section
open Go.RowKit

/-- A value is refused. -/
def TBad (s : ByteArray) (g : Nat) (p e : Int) (w : World) (en : Ending) (w' : World) : Prop :=
  ∃ a m : Int, en = .returned (.agg #[.int .u8 0, .int .i64 0, .slice none 0 0]) ∧ TxB w' g s a m p e ∧ w.grownBy w' (some g)
def SvD (w W : World) (g M V9 : Nat) (b : Nat) (bk : Nat) (bn : Int) (m e : Int) : Prop := SvC w W g M V9 b bk bn m e ∧ SvC w (W.setCell ⟨g, 2, none⟩ (.int .i64 (m + 1))) g M V9 b bk bn (m + 1) e
theorem Sv.both {w W : World} {g M V9 : Nat} {s : ByteArray} {kk b d : Nat} {n : Int} {l : List UInt8} {bk : Nat} {bn : Int} {m e : Int} (h : Sv w W g M V9 s kk b d n l bk bn m e) : SvD w W g M V9 b bk bn m e := ⟨h.cells, (h.many (m + 1)).cells⟩
theorem sv_fail0 {w W : World} {g M V9 : Nat} {s : ByteArray} {kk b d : Nat} {n : Int} {l : List UInt8} {bk : Nat} {bn : Int} {m er : Int} (he : er ≠ 0) (h : Sv w W g M V9 s kk b d n l bk bn m 0) :
    Calls Tryz.prog 56 #[.pointer (some ⟨g, 0, none⟩), .int .i64 b, .int .i64 er] W fun en w' => en = .returned (.tuple #[]) ∧ SvD w w' g M V9 b bk bn m er ∧ Hid (Sv w w' g M V9 s kk b d n l bk bn m er) :=
  (sv_fail er h er (.inl ⟨rfl, rfl, he⟩)).mono fun en w' ⟨h1, h2, h3⟩ => ⟨h1, h3.out.both, h3⟩
theorem sv_failn {w W : World} {g M V9 : Nat} {s : ByteArray} {kk b d : Nat} {n : Int} {l : List UInt8} {bk : Nat} {bn : Int} {m e er : Int} (he : e ≠ 0) (h : Sv w W g M V9 s kk b d n l bk bn m e) :
    Calls Tryz.prog 56 #[.pointer (some ⟨g, 0, none⟩), .int .i64 b, .int .i64 er] W fun en w' => en = .returned (.tuple #[]) ∧ SvD w w' g M V9 b bk bn m e ∧ Hid (Sv w w' g M V9 s kk b d n l bk bn m e) :=
  (sv_fail er h e (.inr ⟨he, rfl⟩)).mono fun en w' ⟨h1, h2, h3⟩ => ⟨h1, h3.out.both, h3⟩
theorem int_lt (k x : Nat) : (k < x) ↔ ((k : Int) < (x : Int)) := by omega
end
end Go.Proofs.YtbhekkkijomglaaGreatDoor
