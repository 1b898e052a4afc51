/- Put together: CopP, CopW. -/
import Derived.Test.YtbhekkkijomglaaGreatDoorVspM
import Derived.OwnWalk
namespace Go.Proofs.YtbhekkkijomglaaGreatDoor
/-! A row of values that is made at its full length and then stored into, item by item. -/
section
open Go.RowKit

/-- The zero value, in a row. -/
def vt0 : VT := (.mk 0 0 [], none, 0)
theorem vts_rep_at : ∀ (n x : Nat), x < n * 3 → (vtsCells (List.replicate n vt0))[x]? = (vtCells vt0)[x % 3]? := by
  intro n
  induction n with
  | zero => intro x h; omega
  | succ n ih =>
    intro x h
    have e : vtsCells (List.replicate (n + 1) vt0) = vtCells vt0 ++ vtsCells (List.replicate n vt0) := rfl
    rw [e]
    by_cases hx : x < 3
    · rw [List.getElem?_append_left (by show x < 3; exact hx), Nat.mod_eq_of_lt hx]
    · rw [List.getElem?_append_right (by show 3 ≤ x; omega), show x - (vtCells vt0).length = x - 3 from rfl, ih (x - 3) (by omega)]
      congr 1
      omega
theorem made_v (n : Nat) : (madeCells (Value.agg #[.int .u8 0, .int .i64 0, .slice none 0 0]).cells (n * 3)).toList = vtsCells (List.replicate n vt0) := by
  apply List.ext_getElem?
  intro x
  by_cases hx : x < n * 3
  · rw [vts_rep_at n x hx]
    have h3 : x % 3 < 3 := Nat.mod_lt _ (by decide)
    simp only [madeCells, Value.cells, Array.toList_map, Array.toList_range, List.getElem?_map, List.getElem?_range hx, Option.map_some]
    rcases (show x % 3 = 0 ∨ x % 3 = 1 ∨ x % 3 = 2 by omega) with h | h | h <;> (rw [show (#[Value.int IntKind.u8 0, Value.int IntKind.i64 0, Value.slice none 0 0] : Array Value).size = 3 from rfl, h]; rfl)
  · rw [List.getElem?_eq_none (by simp [madeCells]; omega), List.getElem?_eq_none (by rw [vtsCells_length, List.length_replicate]; omega)]
theorem vts_set : ∀ (l : List VT) (j : Nat) (t : VT), j < l.length → (((vtsCells l).set (j * 3) (.int .u8 t.1.k)).set (j * 3 + 1) (.int .i64 t.1.n)).set (j * 3 + 2) (.slice t.2.1 t.1.l.length t.2.2) = vtsCells (l.set j t) := by
  intro l
  induction l with
  | nil => intro j t h; exact absurd h (Nat.not_lt_zero _)
  | cons m r ih =>
    intro j t h
    have e : vtsCells (m :: r) = vtCells m ++ vtsCells r := rfl
    rw [e]
    cases j with
    | zero => rfl
    | succ j =>
      have hl : (vtCells m).length = 3 := rfl
      rw [List.set_append_right _ _ (by rw [hl]; omega), List.set_append_right _ _ (by rw [hl]; omega), List.set_append_right _ _ (by rw [hl]; omega), hl,
        show (j + 1) * 3 - 3 = j * 3 by omega, show (j + 1) * 3 + 1 - 3 = j * 3 + 1 by omega, show (j + 1) * 3 + 2 - 3 = j * 3 + 2 by omega, ih j t (by simpa using h)]
      rfl
/-- The cells of an item are stored. -/
def stored3 (w : World) (g j : Nat) (t : VT) : World := ((w.setCell ⟨g, j * 3, none⟩ (.int .u8 t.1.k)).setCell ⟨g, j * 3 + 1, none⟩ (.int .i64 t.1.n)).setCell ⟨g, j * 3 + 2, none⟩ (.slice t.2.1 t.1.l.length t.2.2)
theorem Grow.set {T : TypeId} {B g n c : Nat} {l : List VT} {w : World} (h : Grow T B (.slice (some ⟨g, 0, none⟩) n c) l w) (j : Nat) (t : VT) (hj : j < l.length) (hn : n = l.length) (ht : Vsp w (fun k => Fr B w k ∧ some g ≠ some k) t.2.1 t.1.l) :
    Grow T B (.slice (some ⟨g, 0, none⟩) n c) (l.set j t) (stored3 w g j t) := by
  subst hn
  obtain ⟨o1, g1⟩ := h.own.stored (j * 3) (.int .u8 t.1.k)
  obtain ⟨o2, g2⟩ := o1.stored (j * 3 + 1) (.int .i64 t.1.n)
  obtain ⟨o3, g3⟩ := o2.stored (j * 3 + 2) (.slice t.2.1 t.1.l.length t.2.2)
  rw [vts_set l j t hj] at o3
  have hg : w.grownBy (stored3 w g j t) (some g) := only_trans (only_trans g1 g2) g3
  have hS : ∀ k, (Fr B w k ∧ (Value.slice (some ⟨g, 0, none⟩) l.length c).ownBlock ≠ some k) → (Fr B (stored3 w g j t) k ∧ (Value.slice (some ⟨g, 0, none⟩) l.length c).ownBlock ≠ some k) := fun k hk => ⟨⟨hk.1.1, Nat.lt_of_lt_of_le hk.1.2 hg.size⟩, hk.2⟩
  refine ⟨by rw [List.length_set]; exact o3, fun u hu => ?_⟩
  have hu2 : Vsp w (fun k => Fr B w k ∧ (Value.slice (some ⟨g, 0, none⟩) l.length c).ownBlock ≠ some k) u.2.1 u.1.l := by
    rcases List.mem_or_eq_of_mem_set hu with hu | rfl
    · exact h.sub u hu
    · exact ht
  exact hu2.keep hS fun k hk => hg.block k hk.1.2 (fun e => hk.2 e.symm)
theorem Grow.made {T : TypeId} {B g n c : Nat} {w : World} (h : w.ownsRow B T 3 (.slice (some ⟨g, 0, none⟩) n c) n (vtsCells (List.replicate n vt0))) : Grow T B (.slice (some ⟨g, 0, none⟩) n c) (List.replicate n vt0) w :=
  ⟨by rw [List.length_replicate]; exact h, fun t ht => by rw [List.eq_of_mem_replicate ht]; exact .emp _⟩
/-- What stands where j items are done. -/
def upTo (l : List VT) (n : Nat) : List VT := l ++ List.replicate (n - l.length) vt0
theorem upTo_length {l : List VT} {n : Nat} (h : l.length ≤ n) : (upTo l n).length = n := by unfold upTo; simp; omega
theorem upTo_set {l : List VT} {n : Nat} (h : l.length < n) (t : VT) : (upTo l n).set l.length t = upTo (l ++ [t]) n := by
  unfold upTo
  obtain ⟨d, hd⟩ : ∃ d, n - l.length = d + 1 := ⟨n - l.length - 1, by omega⟩
  rw [hd, List.replicate_succ, List.set_append_right _ _ (Nat.le_refl _), Nat.sub_self, List.set_cons_zero, List.append_assoc, List.length_append, show n - (l.length + [t].length) = d by simp; omega]
  rfl
theorem upTo_all {l : List VT} {n : Nat} (h : l.length = n) : upTo l n = l := by unfold upTo; simp [h]
end

/-! The walks of copies and Copy, Tuple and List: values in new memory. -/
section
open Go.RowKit

/-- A row of values came back, in fresh blocks. -/
def RowP (l : List V) (w : World) (e : Ending) (w' : World) : Prop := ∃ A c, e = .returned (.slice A l.length c) ∧ Vsp w' (Fr w.heap.size w') A l ∧ Below w.heap.size w w'
/-- A value came back, its items in fresh blocks. -/
def ValP (x : V) (w : World) (e : Ending) (w' : World) : Prop := ∃ A c, e = .returned (.agg #[.int .u8 x.k, .int .i64 x.n, .slice A x.l.length c]) ∧ Vsp w' (Fr w.heap.size w') A x.l ∧ Below w.heap.size w w'
def CopyOk (x : V) : Prop := ∀ (A : Option Addr) (c : Nat) (w : World), x.size ≤ 1000000 → Vsl w w.heap.size A x.l → Calls Tryz.prog 64 #[.agg #[.int .u8 x.k, .int .i64 x.n, .slice A x.l.length c]] w (ValP x w)
theorem take_at {l : List V} {j : Nat} {y : V} (h : l[j]? = some y) : l.take j ++ [y] = l.take (j + 1) := by
  obtain ⟨h1, h2⟩ := List.getElem?_eq_some_iff.1 h
  rw [List.take_succ_eq_append_getElem h1, h2]

set_option maxRecDepth 100000 in
set_option maxHeartbeats 1000000 in
theorem copies_row (l : List V) (ih : ∀ x ∈ l, CopyOk x) (A : Option Addr) (c : Nat) (w : World) (hsz : V.sizes l ≤ 1000000) (hA : Vsl w w.heap.size A l) : Calls Tryz.prog 40 #[.slice A l.length c] w (RowP l w) := by
  have hll : l.length ≤ 1000000 := by have := len_sizes l; omega
  have hsub : ∀ y ∈ l, y.size ≤ 1000000 := fun y hy => by have := size_mem hy; omega
  have IH := Lib.hid ih; have HS := Lib.hid hsub
  clear ih hsub hsz
  by_cases h0 : l = []
  · subst h0
    go_enter Tryz.func40, Tryz.ntmps40
    go_wp2_with fail
    go_ret
    exact ⟨none, 0, rfl, .emp _, Below.refl _ _⟩
  have hpos : 0 < l.length := by
    rcases Nat.eq_zero_or_pos l.length with h | h
    · exact absurd (List.length_eq_zero_iff.1 h) h0
    · exact h
  have hne : ((l.length : Int) == 0) = false := beq_eq_false_iff_ne.2 (by omega)
  obtain ⟨i0, hi, hz0, hz1, hz2⟩ := info_parts (P := Tryz.prog) (e := 24) (z := .agg #[.int .u8 0, .int .i64 0, .slice none 0 0]) (size := 3) (bytes := 40) (by kernel_rfl)
  have HU : Tryz.prog.underlying 22 = some (.slice 24) := by kernel_rfl
  go_enter Tryz.func40, Tryz.ntmps40
  go_wp2_with (at_make; refine wpList_make_full _ rfl _ _ 22 rfl w.heap.size 24 i0 (.agg #[.int .u8 0, .int .i64 0, .slice none 0 0]) 3 HU hi hz0 hz1 .i64 .i64 _ _ l.length rfl rfl rfl rfl (by rw [hz2]; omega) (by unfold maxLen; omega) (Nat.le_refl _) ?_; intro w1 hown1 hgrow1; rw [made_v] at hown1; have hb1 : Below w.heap.size w w1 := Below.grown (Below.refl _ _) hgrow1 (Nat.le_refl _) (fun j hj => by cases hj); clear hgrow1)
  have hG := Grow.made (B := w.heap.size) hown1
  have hlt1 : w.heap.size < w1.heap.size := (hG.own.lt _ rfl).2
  clear hown1
  go_loopw [14] (fun i wr => ∃ d : List VT, i = .int .i64 d.length ∧ d.length ≤ l.length ∧ Hid (d.map (·.1) = l.take d.length) ∧ Grow 24 w.heap.size (.slice (some ⟨w.heap.size, 0, none⟩) l.length l.length) (upTo d l.length) wr ∧ Below w.heap.size w wr) (fun i _ => l.length - (intOf i).toNat)
  case atStart => exact ⟨[], rfl, Nat.zero_le _, by rfl, hG, hb1⟩
  case round =>
    obtain ⟨d, rfl, hd, HD, hGr, hbw⟩ := hrel
    by_cases hlt : d.length < l.length
    · obtain ⟨y, hy⟩ : ∃ y, l[d.length]? = some y := ⟨l[d.length], List.getElem?_eq_getElem hlt⟩
      obtain ⟨g1, o1, A1, d1, rfl, hg1, p0, p1, p2, hA1⟩ := (hA.held hbw).at_ hy
      have hmem : y ∈ l := List.mem_of_getElem? hy
      have HC : Hid (∀ W, Vsl W W.heap.size A1 y.l → Calls Tryz.prog 64 #[.agg #[.int .u8 y.k, .int .i64 y.n, .slice A1 y.l.length d1]] W (ValP y W)) := fun W h => IH.out y hmem A1 d1 W (HS.out y hmem) h
      have HT := Lib.hid (take_at hy)
      have HB := Lib.hid hbw; have HG := Lib.hid hGr; have HA1 := Lib.hid hA1
      have j0 : (0 : Int) ≤ (d.length : Int) := by omega
      have j1 : (d.length : Int) < (l.length : Int) := by omega
      clear hA1 hy hmem hbw hGr hA hG hb1 IH HS
      go_wp2_with fail
      have hB0 := HB.out.size
      refine (HC.out _ ((HA1.out.alloc hB0 _).more (by simp; omega))).mono ?_
      rintro e w3 ⟨A2, c2, rfl, hv2, hb3⟩
      have hb13 : Below wr.heap.size wr w3 := ((Below.refl wr.heap.size wr).alloc (Nat.le_refl _) _).trans (hb3.mono (by simp))
      have hG3 := HG.out.below hb13
      have hown := hG3.own
      rw [upTo_length hd] at hown
      have e0 : (upTo d l.length)[d.length]? = some vt0 := by
        unfold upTo
        rw [List.getElem?_append_right (Nat.le_refl _), Nat.sub_self, List.getElem?_replicate, if_pos (by omega)]
      have r0 : w3.cell? ⟨w.heap.size, d.length * 3, none⟩ = some (.int .u8 0) := (hown.cellAt (d.length * 3 + 0) (by omega)).trans (vtsCells_at _ d.length 0 vt0 e0 (by omega))
      have r1 : w3.cell? ⟨w.heap.size, d.length * 3 + 1, none⟩ = some (.int .i64 0) := (hown.cellAt (d.length * 3 + 1) (by omega)).trans (vtsCells_at _ d.length 1 vt0 e0 (by omega))
      have r2 : w3.cell? ⟨w.heap.size, d.length * 3 + 2, none⟩ = some (.slice none 0 0) := (hown.cellAt (d.length * 3 + 2) (by omega)).trans (vtsCells_at _ d.length 2 vt0 e0 (by omega))
      have f0 := hown.frozenAt (d.length * 3)
      have f1 := hown.frozenAt (d.length * 3 + 1)
      have f2 := hown.frozenAt (d.length * 3 + 2)
      have hws : w.heap.size < wr.heap.size := (HG.out.own.lt _ rfl).2
      have hS := hG3.set d.length (y, A2, c2) (by rw [upTo_length hd]; omega) (upTo_length hd).symm (hv2.more fun k hk => ⟨⟨by have := hk.1; simp at this; omega, hk.2⟩, by intro q; injection q with q; have := hk.1; simp at this; omega⟩)
      rw [upTo_set hlt] at hS
      unfold stored3 at hS
      have HS3 := Lib.hid hS
      have HB3 := Lib.hid (HB.out.trans (hb13.mono hB0))
      clear hS hG3 hown hb13 hb3 hv2 e0
      simp only at HS3
      go_wp2_with fail
      go_roundw
      case rel => exact ⟨d ++ [(y, A2, c2)], by rw [List.length_append]; go_num, by rw [List.length_append]; simp; omega, by show _ = _; rw [List.map_append, HD.out, List.length_append]; exact HT.out, HS3.out, ((HB3.out.setCell (p := ⟨w.heap.size, _, none⟩) (Nat.le_refl _) _).setCell (p := ⟨w.heap.size, _, none⟩) (Nat.le_refl _) _).setCell (p := ⟨w.heap.size, _, none⟩) (Nat.le_refl _) _⟩
      case measure => simp [intOf]; omega
    · have hdl : d.length = l.length := by omega
      have hfin : Hid (RowP l w (.returned (.slice (some ⟨w.heap.size, 0, none⟩) l.length l.length)) wr) := by
        rw [upTo_all hdl] at hGr
        have hd2 := HD.out
        rw [hdl, List.take_length] at hd2
        exact ⟨_, _, rfl, by rw [← hd2]; exact hGr.done.1, hbw⟩
      have j1 : ¬ (d.length : Int) < (l.length : Int) := by omega
      clear hGr hbw hA hG hb1 IH HS
      go_wp2_with fail
      go_ret
      exact hfin.out

set_option maxRecDepth 100000 in
set_option maxHeartbeats 1000000 in
theorem copy_ok : ∀ x : V, CopyOk x := by
  intro x
  induction x using V.ind with
  | h k n l ih =>
    intro A c w hsz hA
    change Vsl w w.heap.size A l at hA
    rw [V.size] at hsz
    have HC := Lib.hid (fun A c w hA => copies_row l ih A c w (by omega) hA)
    have HA := Lib.hid hA
    clear ih hA
    show Calls Tryz.prog 64 #[.agg #[.int .u8 k, .int .i64 n, .slice A l.length c]] w (ValP (.mk k n l) w)
    have hb0 := ((Below.refl w.heap.size w).alloc (Nat.le_refl _) (.cells #[.int .u8 k, .int .i64 n, .slice A l.length c] 24)).alloc (by simp) (.cells #[.int .u8 0, .int .i64 0, .slice none 0 0] 24)
    have hk0 := (Blk.new w 24 #[.int .u8 k, .int .i64 n, .slice A l.length c]).alloc (.cells #[.int .u8 0, .int .i64 0, .slice none 0 0] 24)
    have hk1 := Blk.new (w.alloc (.cells #[.int .u8 k, .int .i64 n, .slice A l.length c] 24)) 24 #[.int .u8 0, .int .i64 0, .slice none 0 0]
    rw [World.size_alloc] at hk1
    have HB0 := Lib.hid (And.intro hb0 (And.intro hk0 hk1))
    clear hb0 hk0 hk1
    go_enter Tryz.func64, Tryz.ntmps64
    go_wp2_with fail
    refine (HC.out _ _ _ (((HA.out.alloc (Nat.le_refl _) (.cells #[.int .u8 k, .int .i64 n, .slice A l.length c] 24)).more (by simp)).alloc (Nat.le_refl _) (.cells #[.int .u8 0, .int .i64 0, .slice none 0 0] 24) |>.more (by simp))).mono ?_
    rintro e w1 ⟨A2, c2, rfl, hv2, hb1⟩
    have hk1 := HB0.out.2.1.below hb1 (by simp; omega)
    have hk2 := HB0.out.2.2.below hb1 (by simp)
    obtain ⟨⟨q0, q1, q2⟩, ⟨f0, f1, f2⟩⟩ := hk1.three
    obtain ⟨⟨q3, q4, q5⟩, ⟨f3, f4, f5⟩⟩ := hk2.three
    have hbw := HB0.out.1.trans (hb1.mono (by simp; omega))
    have HX := Lib.hid (And.intro hv2 hbw)
    clear hk1 hk2 hb1 hv2 hbw
    go_wp2_with fail
    refine bodyPost_ret (v := .agg #[.int .u8 k, .int .i64 n, .slice A2 l.length c2]) (by simp [results, Tryz.results64, go_sem, q0, q1, q2, q3, q4, q5]) rfl ?_
    refine ⟨A2, c2, rfl, ?_, (((HX.out.2.setCell (p := ⟨w.heap.size, 2, none⟩) (Nat.le_refl _) _).setCell (p := ⟨w.heap.size + 1, 0, none⟩) (Nat.le_succ _) _).setCell (p := ⟨w.heap.size + 1, 1, none⟩) (Nat.le_succ _) _).setCell (p := ⟨w.heap.size + 1, 2, none⟩) (Nat.le_succ _) _⟩
    refine HX.out.1.carry (fun q hq => ⟨by have := hq.1; simp at this; omega, by simpa using hq.2⟩) (fun p u hp hu => ?_)
    have hp1 : w.heap.size + 2 ≤ p.block := by have := hp.1; simpa using this
    rw [World.cell?_setCell_other _ _ _ _ (by intro q; rw [← q] at hp1; simp at hp1), World.cell?_setCell_other _ _ _ _ (by intro q; rw [← q] at hp1; simp at hp1), World.cell?_setCell_other _ _ _ _ (by intro q; rw [← q] at hp1; simp at hp1), World.cell?_setCell_other _ _ _ _ (by intro q; rw [← q] at hp1; simp at hp1; omega)]
    exact hu
theorem copies_any (l : List V) (A : Option Addr) (c : Nat) (w : World) (hsz : V.sizes l ≤ 1000000) (hA : Vsl w w.heap.size A l) : Calls Tryz.prog 40 #[.slice A l.length c] w (RowP l w) :=
  copies_row l (fun x _ => copy_ok x) A c w hsz hA

set_option maxRecDepth 100000 in
set_option maxHeartbeats 1000000 in
theorem vtuple_any (l : List V) (A : Option Addr) (c : Nat) (w : World) (hsz : V.sizes l ≤ 1000000) (hA : Vsl w w.heap.size A l) : Calls Tryz.prog 24 #[.slice A l.length c] w (ValP (.mk 3 0 l) w) := by
  have HC := Lib.hid (fun w hA => copies_any l A c w hsz hA)
  have HA := Lib.hid hA
  have HK := Lib.hid (And.intro (Blk.new w 24 #[.int .u8 0, .int .i64 0, .slice none 0 0]) ((Below.refl w.heap.size w).alloc (Nat.le_refl _) (.cells #[.int .u8 0, .int .i64 0, .slice none 0 0] 24)))
  clear hA
  go_enter Tryz.func24, Tryz.ntmps24
  go_wp2_with fail
  refine (HC.out _ ((HA.out.alloc (Nat.le_refl _) (.cells #[.int .u8 0, .int .i64 0, .slice none 0 0] 24)).more (by simp))).mono ?_
  rintro e w1 ⟨A2, c2, rfl, hv2, hb1⟩
  have hk1 := HK.out.1.below hb1 (by simp)
  obtain ⟨⟨q0, q1, q2⟩, ⟨f0, f1, f2⟩⟩ := hk1.three
  have hbw := HK.out.2.trans (hb1.mono (by simp))
  have HX := Lib.hid (And.intro hv2 hbw)
  clear hk1 hb1 hv2 hbw
  go_wp2_with fail
  refine bodyPost_ret (v := .agg #[.int .u8 3, .int .i64 0, .slice A2 l.length c2]) (by simp [results, Tryz.results24, go_sem, q0, q1, q2]) rfl ?_
  refine ⟨A2, c2, rfl, ?_, ((HX.out.2.setCell (p := ⟨w.heap.size, 0, none⟩) (Nat.le_refl _) _).setCell (p := ⟨w.heap.size, 1, none⟩) (Nat.le_refl _) _).setCell (p := ⟨w.heap.size, 2, none⟩) (Nat.le_refl _) _⟩
  refine HX.out.1.carry (fun q hq => ⟨by have := hq.1; simp at this; omega, by simpa using hq.2⟩) (fun p u hp hu => ?_)
  have hp1 : w.heap.size + 1 ≤ p.block := by have := hp.1; simpa using this
  rw [World.cell?_setCell_other _ _ _ _ (by intro q; rw [← q] at hp1; simp at hp1; try omega), World.cell?_setCell_other _ _ _ _ (by intro q; rw [← q] at hp1; simp at hp1; try omega), World.cell?_setCell_other _ _ _ _ (by intro q; rw [← q] at hp1; simp at hp1; try omega)]
  exact hu
set_option maxRecDepth 100000 in
set_option maxHeartbeats 1000000 in
theorem vlist_any (l : List V) (A : Option Addr) (c : Nat) (w : World) (hsz : V.sizes l ≤ 1000000) (hA : Vsl w w.heap.size A l) : Calls Tryz.prog 23 #[.slice A l.length c] w (ValP (.mk 4 0 l) w) := by
  have HC := Lib.hid (fun w hA => copies_any l A c w hsz hA)
  have HA := Lib.hid hA
  have HK := Lib.hid (And.intro (Blk.new w 24 #[.int .u8 0, .int .i64 0, .slice none 0 0]) ((Below.refl w.heap.size w).alloc (Nat.le_refl _) (.cells #[.int .u8 0, .int .i64 0, .slice none 0 0] 24)))
  clear hA
  go_enter Tryz.func23, Tryz.ntmps23
  go_wp2_with fail
  refine (HC.out _ ((HA.out.alloc (Nat.le_refl _) (.cells #[.int .u8 0, .int .i64 0, .slice none 0 0] 24)).more (by simp))).mono ?_
  rintro e w1 ⟨A2, c2, rfl, hv2, hb1⟩
  have hk1 := HK.out.1.below hb1 (by simp)
  obtain ⟨⟨q0, q1, q2⟩, ⟨f0, f1, f2⟩⟩ := hk1.three
  have hbw := HK.out.2.trans (hb1.mono (by simp))
  have HX := Lib.hid (And.intro hv2 hbw)
  clear hk1 hb1 hv2 hbw
  go_wp2_with fail
  refine bodyPost_ret (v := .agg #[.int .u8 4, .int .i64 0, .slice A2 l.length c2]) (by simp [results, Tryz.results23, go_sem, q0, q1, q2]) rfl ?_
  refine ⟨A2, c2, rfl, ?_, ((HX.out.2.setCell (p := ⟨w.heap.size, 0, none⟩) (Nat.le_refl _) _).setCell (p := ⟨w.heap.size, 1, none⟩) (Nat.le_refl _) _).setCell (p := ⟨w.heap.size, 2, none⟩) (Nat.le_refl _) _⟩
  refine HX.out.1.carry (fun q hq => ⟨by have := hq.1; simp at this; omega, by simpa using hq.2⟩) (fun p u hp hu => ?_)
  have hp1 : w.heap.size + 1 ≤ p.block := by have := hp.1; simpa using this
  rw [World.cell?_setCell_other _ _ _ _ (by intro q; rw [← q] at hp1; simp at hp1; try omega), World.cell?_setCell_other _ _ _ _ (by intro q; rw [← q] at hp1; simp at hp1; try omega), World.cell?_setCell_other _ _ _ _ (by intro q; rw [← q] at hp1; simp at hp1; try omega)]
  exact hu
end
end Go.Proofs.YtbhekkkijomglaaGreatDoor
