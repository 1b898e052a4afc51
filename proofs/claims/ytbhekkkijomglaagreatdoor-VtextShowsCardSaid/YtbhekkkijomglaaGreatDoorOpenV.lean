/- Values that came in, opened. -/
import Derived.Test.YtbhekkkijomglaaGreatDoorValS
import Derived.Test.YtbhekkkijomglaaGreatDoorRows
import Derived.Deep.Slices
import Derived.Deep.Fields
import Derived.ChangeSame
import Derived.SizedLaws
import Derived.OpenShut
namespace Go.Proofs.YtbhekkkijomglaaGreatDoor
open Go.ChangeShapes Go.WideShapes Go.Deep Go.RowKit

section
variable {H : Type} {enc : TypeId × Value → H} {P : Program} {w : World} {base : Nat} {spare : Nat → Bool} {held : Bool}
theorem open_slice_fields {t e : TypeId} {fs : Array Field} {fuel : Nat} {cs : List Value} {x : DataW H × List MemPlace} (ht : P.underlying t = some (.slice e)) (he : P.underlying e = some (.struct fs))
    (hone : oneCellFields P fs = true) (hC : P.cellsOf e = fs.size) (h : DataW.trod enc P w base spare held fuel t cs = some x) :
    (cs = [.slice none 0 0] ∧ x = (.nil, [])) ∨
    ∃ (a : Addr) (len cap m : Nat) (D : Nat → DataW H) (Pl : Nat → List MemPlace), cs = [.slice (some a) len cap] ∧ base ≤ a.block ∧ len ≤ cap ∧ cap ≤ maxLen ∧ m = (if spare a.block then cap else len) ∧
      x = (.slice ((List.range len).map D) ((List.range (m - len)).map fun j => D (len + j)), MemPlace.row a (m * fs.size) ++ (List.range m).flatMap Pl) ∧
      ∀ i, i < m → ∃ (ys : List (DataW H × List MemPlace)) (n : Nat), D i = .agg (ys.map (·.1)) ∧ Pl i = ys.flatMap (·.2) ∧ ys.length = fs.size ∧
        ∀ (j : Nat) (f : Field), fs[j]? = some f → ∃ (v : Value) (y : DataW H × List MemPlace), w.cell? (a.add (i * fs.size + j)) = some v ∧ ys[j]? = some y ∧ DataW.trod enc P w base spare held n f.type [v] = some y := by
  rcases open_slice ht h with h0 | ⟨a, len, cap, m, n, D, Pl, hcs, hb, hl, hm, hmm, hx, hi⟩
  · exact .inl h0
  · refine .inr ⟨a, len, cap, m, D, Pl, hcs, hb, hl, hm, hmm, by rw [hC] at hx; exact hx, fun i him => ?_⟩
    obtain ⟨cs', hc, ht'⟩ := hi i him
    rw [hC] at hc
    obtain ⟨ys, n', hn', hy, hlen, hyl, hf⟩ := DataW.trod_struct he ht'
    obtain ⟨_, hcl, hat⟩ := World.cells?_some hc
    simp only [Prod.mk.injEq] at hy
    refine ⟨ys, n', hy.1, hy.2, hyl, fun j f hj => ?_⟩
    obtain ⟨ho, hk⟩ := hone_of hone j f hj
    have hjl : j < fs.size := (Array.getElem?_eq_some_iff.1 hj).1
    have hcell := hat j hjl
    have hv : cs'[j]? = some (cs'[j]'(by omega)) := List.getElem?_eq_getElem (by omega)
    have h1 := hf j f hj
    rw [ho, hk] at h1
    have hone' : (cs'.drop j).take 1 = [cs'[j]'(by omega)] := by
      rw [List.drop_eq_getElem_cons (by omega)]
      rfl
    rw [hone'] at h1
    have hys : ys[j]? = some (ys[j]'(by omega)) := List.getElem?_eq_getElem (by omega)
    refine ⟨_, _, ?_, hys, h1.trans hys⟩
    rw [← Go.Deep.add_add, hcell, hv]
end

theorem weights_all_mem {H : Type} {P : Program} {e : TypeId} : ∀ {ds : List (DataW H)} {d : DataW H}, d ∈ ds → ∀ n ∈ d.weights P e, n ∈ DataW.weightsAll P e ds
  | x :: r, d, hd, n, hn => by
    rw [DataW.weightsAll, List.mem_append]
    rcases List.mem_cons.1 hd with rfl | hd
    · exact .inl hn
    · exact .inr (weights_all_mem hd n hn)

theorem slice_of {H : Type} {enc : TypeId × Value → H} {W : World} {sp : Nat → Bool} {held : Bool} {t e : TypeId} {fuel : Nat} {v : Value} {x : DataW H × List MemPlace} (ht : Tryz.prog.underlying t = some (.slice e)) (h : DataW.trod enc Tryz.prog W 0 sp held fuel t [v] = some x) :
    ∃ A len cap, v = .slice A len cap := by
  rcases open_slice ht h with ⟨hc, _⟩ | ⟨a, len, cap, m, n, D, Pl, hc, _⟩
  · exact ⟨none, 0, 0, (List.cons.inj hc).1⟩
  · exact ⟨some a, len, cap, (List.cons.inj hc).1⟩
/-- A value that stands at an address. -/
structure ValIn (W : World) (ad : Addr) (x : V × Option Addr × Nat) : Prop where
  c0 : W.cell? ad = some (.int .u8 x.1.k)
  c1 : W.cell? (ad.add 1) = some (.int .i64 x.1.n)
  c2 : W.cell? (ad.add 2) = some (.slice x.2.1 x.1.l.length x.2.2)
  v : Vsl W W.heap.size x.2.1 x.1.l
  f : x.1.Fits
theorem add_zero_ad (a : Addr) : a.add 0 = a := by unfold Addr.add; rw [if_pos rfl]

theorem open_vals {H : Type} {enc : TypeId × Value → H} {W : World} {sp : Nat → Bool} {held : Bool} : ∀ (d : DataW H) (fuel len cap : Nat) (A : Option Addr) (p : List MemPlace),
    DataW.trod enc Tryz.prog W 0 sp held fuel 22 [.slice A len cap] = some (d, p) → (∀ n ∈ d.weights Tryz.prog 22, n ≤ reachBytes) →
    ∃ l : List V, l.length = len ∧ l.length ≤ 140737488351232 ∧ Vsl W W.heap.size A l ∧ ∀ x ∈ l, x.Fits := by
  intro d
  induction hsz : SizeOf.sizeOf d using Nat.strongRecOn generalizing d with
  | _ N ih =>
    intro fuel len cap A p h hw
    have hrb : reachBytes = 140737488351232 := rfl
    have hst := Tryz.underlying24
    have hsl := Tryz.underlying22
    rcases open_slice_fields hsl hst (by kernel_rfl) (by kernel_rfl) h with ⟨hcs, _⟩ | ⟨a, len', cap', m', D, Pl, hcs, _, hlc, hcm, hm, hx, hi⟩
    · simp only [List.cons.injEq, Value.slice.injEq, and_true] at hcs
      obtain ⟨rfl, rfl, rfl⟩ := hcs
      exact ⟨[], rfl, Nat.zero_le _, .emp _, fun m hm => by cases hm⟩
    · simp only [List.cons.injEq, Value.slice.injEq, and_true] at hcs
      obtain ⟨rfl, rfl, rfl⟩ := hcs
      simp only [Prod.mk.injEq] at hx
      obtain ⟨rfl, rfl⟩ := hx
      have hlm : len ≤ m' := by rw [hm]; split <;> omega
      have hlen : len ≤ 140737488351232 := by
        have := hw (((List.range len).map D).length + ((List.range (m' - len)).map fun j => D (len + j)).length |> (· * Tryz.prog.bytesOf 24)) (by rw [DataW.weights, hsl]; simp)
        have hb : Tryz.prog.bytesOf 24 = 40 := by kernel_rfl
        rw [hb, List.length_map, List.length_range] at this
        simp only [hrb] at this
        omega
      have key : ∀ i, i < len → ∃ x : V × Option Addr × Nat, ValIn W (a.add (i * 3)) x := by
        intro i hil
        obtain ⟨ys, n, hD, _, hyl, hf⟩ := hi i (by omega)
        obtain ⟨v0, y0, k0, q0, r0⟩ := hf 0 _ rfl
        obtain ⟨v1, y1, k1, q1, r1⟩ := hf 1 _ rfl
        obtain ⟨v2, y2, k2, q2, r2⟩ := hf 2 _ rfl
        obtain ⟨z0, e0, rfl, w0⟩ := DataW.trod_int Tryz.underlying5 r0
        obtain ⟨z1, e1, rfl, w1⟩ := DataW.trod_int Tryz.underlying2 r1
        obtain rfl := List.cons.inj e0 |>.1
        obtain rfl := List.cons.inj e1 |>.1
        obtain ⟨A2, len2, cap2, rfl⟩ := slice_of hsl r2
        have hb0 := bounds_u8 w0
        obtain ⟨n0, rfl⟩ : ∃ n0 : Nat, z0 = (n0 : Int) := ⟨z0.toNat, by omega⟩
        have hmem : D i ∈ (List.range len).map D := List.mem_map.2 ⟨i, List.mem_range.2 hil, rfl⟩
        have h4 : (ys.map (·.1))[2]? = some y2.1 := by rw [List.getElem?_map, q2]; rfl
        have hlt : SizeOf.sizeOf y2.1 < N := by
          have s1 := List.sizeOf_lt_of_mem (List.mem_of_getElem? h4)
          have s2 := List.sizeOf_lt_of_mem hmem
          rw [hD] at s2
          simp only [DataW.agg.sizeOf_spec] at s2
          rw [← hsz, DataW.slice.sizeOf_spec]
          omega
        obtain ⟨l2, hl2, hl3, hv2, hf2⟩ := ih _ hlt y2.1 rfl n len2 cap2 A2 y2.2 (by simpa using r2) (fun q hq => by
          refine hw q ?_
          rw [DataW.weights, hsl]
          refine List.mem_cons_of_mem _ (List.mem_append_left _ (weights_all_mem hmem _ ?_))
          rw [hD, DataW.weights, hst]
          exact DataW.weights_mem_each (j := 2) rfl h4 _ hq)
        subst hl2
        rw [← Go.Deep.add_add] at k0 k1 k2
        rw [add_zero_ad] at k0
        exact ⟨(.mk n0 z1 l2, A2, cap2), k0, k1, k2, hv2, .mk _ _ _ hl3 hf2⟩
      have : Inhabited (V × Option Addr × Nat) := ⟨(.mk 0 0 [], none, 0)⟩
      obtain ⟨M, hM⟩ := choose_lt key
      refine ⟨(List.range len).map fun i => (M i).1, by simp, by simpa using hlen, ?_, ?_⟩
      · rcases Nat.eq_zero_or_pos len with h0 | hpos
        · subst h0; exact .emp _
        have c0 := (hM 0 hpos).c0
        obtain ⟨g, o, spot⟩ := a
        have hspot : spot = none := by simpa [Addr.add] using World.cell?_spot c0
        subst hspot
        have hg : g < W.heap.size := by
          have := block_lt_of_cell c0
          simpa [Addr.add] using this
        have had : ∀ q, (⟨g, o, none⟩ : Addr).add q = ⟨g, o + q, none⟩ := fun q => by
          unfold Addr.add
          split
          · rename_i hq; subst hq; rfl
          · rfl
        have hget : ∀ (i : Nat) (x : V), ((List.range len).map fun i => (M i).1)[i]? = some x → i < len ∧ (M i).1 = x := fun i x hx => by
          have hil : i < len := by have := (List.getElem?_eq_some_iff.1 hx).1; simpa using this
          refine ⟨hil, ?_⟩
          rw [List.getElem?_map, List.getElem?_range hil] at hx
          simpa using hx
        refine .row g o _ (fun i => (M i).2.1) (fun i => (M i).2.2) hg (fun i x hx => ?_) (fun i x hx => ?_)
        · obtain ⟨hil, rfl⟩ := hget i x hx
          obtain ⟨e0, e1, e2, _, _⟩ := hM i hil
          rw [had] at e0
          rw [Go.Deep.add_add, had] at e1 e2
          exact ⟨e0, by rw [Nat.add_assoc]; exact e1, by rw [Nat.add_assoc]; exact e2⟩
        · obtain ⟨hil, rfl⟩ := hget i x hx
          exact (hM i hil).v
      · intro x hx
        obtain ⟨i, hi, rfl⟩ := List.mem_map.1 hx
        exact (hM i (List.mem_range.1 hi)).f

section
variable {H : Type} {enc : TypeId × Value → H} {P : Program} {W : World} {base : Nat} {sp : Nat → Bool} {held : Bool}
/-- A struct of three fields of one cell each, by value: each field's own reading. -/
theorem open_three {r : Reach} {b0 : Nat} {t : TypeId} {f0 f1 f2 : Field} {v : Value} {d : DataW H} {p : List MemPlace} {fs : Array Field} (hst : P.underlying t = some (.struct fs)) (hone : oneCellFields P fs = true) (hfs : fs = #[f0, f1, f2]) (hC : P.cellsOf t = 3)
    (hv : Value.okWide P W r b0 t v) (h : DataW.Trod enc P W base sp held t v d p) :
    ∃ (x0 x1 x2 : Value) (y0 y1 y2 : DataW H × List MemPlace) (n : Nat), v = .agg #[x0, x1, x2] ∧ d = .agg [y0.1, y1.1, y2.1] ∧
      DataW.trod enc P W base sp held n f0.type [x0] = some y0 ∧ DataW.trod enc P W base sp held n f1.type [x1] = some y1 ∧ DataW.trod enc P W base sp held n f2.type [x2] = some y2 := by
  subst hfs
  obtain ⟨cs, rfl, hsz⟩ := okWide_struct hst hv
  obtain ⟨l⟩ := cs
  match l, hsz.trans hC with
  | [x0, x1, x2], _ =>
    obtain ⟨fuel, hf⟩ := h
    obtain ⟨ys, n, _, hx, _, hlen, hg⟩ := DataW.trod_struct hst hf
    match ys, hlen with
    | [y0, y1, y2], _ =>
      simp only [Prod.mk.injEq] at hx
      obtain ⟨o0, k0⟩ := hone_of hone 0 f0 rfl
      obtain ⟨o1, k1⟩ := hone_of hone 1 f1 rfl
      obtain ⟨o2, k2⟩ := hone_of hone 2 f2 rfl
      exact ⟨x0, x1, x2, y0, y1, y2, n, rfl, by simpa using hx.1, by simpa [Value.cells, o0, k0] using hg 0 f0 rfl, by simpa [Value.cells, o1, k1] using hg 1 f1 rfl, by simpa [Value.cells, o2, k2] using hg 2 f2 rfl⟩
end
set_option maxRecDepth 100000 in
/-- A Value that came in. -/
theorem open_val {H : Type} {enc : TypeId × Value → H} {W : World} {sp : Nat → Bool} {held : Bool} {r : Reach} {b0 : Nat} {v : Value} {d : DataW H} {p : List MemPlace}
    (hv : Value.okWide Tryz.prog W r b0 24 v) (h : DataW.Trod enc Tryz.prog W 0 sp held 24 v d p) (hw : ∀ n ∈ d.weights Tryz.prog 24, n ≤ reachBytes) :
    ∃ (x : V) (A : Option Addr) (c : Nat), v = .agg #[.int .u8 x.k, .int .i64 x.n, .slice A x.l.length c] ∧ Vsl W W.heap.size A x.l ∧ x.Fits := by
  have hst := Tryz.underlying24
  have hsl := Tryz.underlying22
  obtain ⟨x0, x1, x2, y0, y1, y2, n, rfl, rfl, r0, r1, r2⟩ := open_three hst (by kernel_rfl) rfl (by kernel_rfl) hv h
  obtain ⟨z0, e0, rfl, w0⟩ := DataW.trod_int Tryz.underlying5 r0
  obtain ⟨z1, e1, rfl, w1⟩ := DataW.trod_int Tryz.underlying2 r1
  obtain rfl := List.cons.inj e0 |>.1
  obtain rfl := List.cons.inj e1 |>.1
  obtain ⟨A2, len2, cap2, rfl⟩ := slice_of hsl r2
  have hb0 := bounds_u8 w0
  obtain ⟨n0, rfl⟩ : ∃ n0 : Nat, z0 = (n0 : Int) := ⟨z0.toNat, by omega⟩
  obtain ⟨l2, hl2, hl3, hv2, hf2⟩ := open_vals y2.1 n len2 cap2 A2 y2.2 (by simpa using r2) (fun q hq => by
    refine hw q ?_
    rw [DataW.weights, hst]
    exact DataW.weights_mem_each (j := 2) rfl rfl _ hq)
  subst hl2
  exact ⟨.mk n0 z1 l2, A2, cap2, rfl, hv2, .mk _ _ _ hl3 hf2⟩
end Go.Proofs.YtbhekkkijomglaaGreatDoor
