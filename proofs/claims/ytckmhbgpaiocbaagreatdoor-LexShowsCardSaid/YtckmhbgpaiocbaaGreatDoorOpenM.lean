/- A slice of marks that came in, opened. -/
import Derived.Test.YtckmhbgpaiocbaaGreatDoorToldW
import Derived.Deep.Slices
import Derived.Deep.Fields
import Derived.ChangeSame
import Derived.SizedLaws
import Derived.OpenShut
namespace Go.Proofs.YtckmhbgpaiocbaaGreatDoor
open Go.ChangeShapes Go.WideShapes Go.Deep Go.RowKit

section
variable {H : Type} {enc : TypeId × Value → H} {P : Program} {w : World} {base : Nat} {spare : Nat → Bool} {held : Bool}
theorem open_slice_fields {t e : TypeId} {fs : Array Field} {fuel : Nat} {cs : List Value} {x : DataW H × List MemPlace} (ht : P.underlying t = some (.slice e)) (he : P.underlying e = some (.struct fs))
    (hone : oneCellFields P fs = true) (hC : P.cellsOf e = fs.size) (h : DataW.trod enc P w base spare held fuel t cs = some x) :
    (cs = [.slice none 0 0] ∧ x = (.nil, [])) ∨
    ∃ (a : Addr) (len cap m : Nat) (D : Nat → DataW H) (Pl : Nat → List MemPlace), cs = [.slice (some a) len cap] ∧ base ≤ a.block ∧ len ≤ cap ∧ cap ≤ maxLen ∧ m = (if spare a.block then cap else len) ∧
      x = (.slice ((List.range len).map D) ((List.range (m - len)).map fun j => D (len + j)), MemPlace.row a (m * fs.size) ++ (List.range m).flatMap Pl) ∧
      ∀ i, i < m → ∃ (ys : List (DataW H × List MemPlace)) (n : Nat), D i = .agg (ys.map (·.1)) ∧ Pl i = ys.flatMap (·.2) ∧ ys.length = fs.size ∧
        ∀ (j : Nat) (f : Field), fs[j]? = some f → ∃ (v : Value) (y : DataW H × List MemPlace), w.cell? (a.add (i * fs.size + j)) = some v ∧ ys[j]? = some y ∧ DataW.trod enc P w base spare held n f.type [v] = some y := by
  rcases open_slice ht h with h0 | ⟨a, len, cap, m, n, D, Pl, hcs, hb, hl, hm, hmm, hx, hi⟩
  · exact .inl h0
  · refine .inr ⟨a, len, cap, m, D, Pl, hcs, hb, hl, hm, hmm, by rw [hC] at hx; exact hx, fun i him => ?_⟩
    obtain ⟨cs', hc, ht'⟩ := hi i him
    rw [hC] at hc
    obtain ⟨ys, n', hn', hy, hlen, hyl, hf⟩ := DataW.trod_struct he ht'
    obtain ⟨_, hcl, hat⟩ := World.cells?_some hc
    simp only [Prod.mk.injEq] at hy
    refine ⟨ys, n', hy.1, hy.2, hyl, fun j f hj => ?_⟩
    obtain ⟨ho, hk⟩ := hone_of hone j f hj
    have hjl : j < fs.size := (Array.getElem?_eq_some_iff.1 hj).1
    have hcell := hat j hjl
    have hv : cs'[j]? = some (cs'[j]'(by omega)) := List.getElem?_eq_getElem (by omega)
    have h1 := hf j f hj
    rw [ho, hk] at h1
    have hone' : (cs'.drop j).take 1 = [cs'[j]'(by omega)] := by
      rw [List.drop_eq_getElem_cons (by omega)]
      rfl
    rw [hone'] at h1
    have hys : ys[j]? = some (ys[j]'(by omega)) := List.getElem?_eq_getElem (by omega)
    refine ⟨_, _, ?_, hys, h1.trans hys⟩
    rw [← Go.Deep.add_add, hcell, hv]
end

theorem weights_all_mem {H : Type} {P : Program} {e : TypeId} : ∀ {ds : List (DataW H)} {d : DataW H}, d ∈ ds → ∀ n ∈ d.weights P e, n ∈ DataW.weightsAll P e ds
  | x :: r, d, hd, n, hn => by
    rw [DataW.weightsAll, List.mem_append]
    rcases List.mem_cons.1 hd with rfl | hd
    · exact .inl hn
    · exact .inr (weights_all_mem hd n hn)
/-- A mark that stands at an address, and what is known of it. -/
def MarkIn (W : World) (ad : Addr) (m : MarkZ) : Prop :=
  (∀ j u, (zCells m)[j]? = some u → W.cell? (ad.add j) = some u) ∧ (-9223372036854775808 ≤ m.2.2.2.1 ∧ m.2.2.2.1 ≤ 9223372036854775807) ∧ m.2.2.2.2.length ≤ 140737488351232
theorem open_marks {H : Type} {enc : TypeId × Value → H} {W : World} {sp : Nat → Bool} {held : Bool} {fuel len cap : Nat} {A : Option Addr} {d : DataW H} {p : List MemPlace}
    (h : DataW.trod enc Tryz.prog W 0 sp held fuel 24 [.slice A len cap] = some (d, p)) (hw : ∀ n ∈ d.weights Tryz.prog 24, n ≤ reachBytes) :
    ∃ ms : List MarkZ, ms.length = len ∧ ms.length ≤ 140737488351232 ∧ Msl W A ms ∧ (∀ m ∈ ms, -9223372036854775808 ≤ m.2.2.2.1 ∧ m.2.2.2.1 ≤ 9223372036854775807) ∧ (∀ m ∈ ms, m.2.2.2.2.length ≤ 140737488351232) := by
  have hrb : reachBytes = 140737488351232 := rfl
  have hst := Tryz.underlying23
  have hsl := Tryz.underlying24
  rcases open_slice_fields hsl hst (by kernel_rfl) (by kernel_rfl) h with ⟨hcs, _⟩ | ⟨a, len', cap', m', D, Pl, hcs, _, hlc, hcm, hm, hx, hi⟩
  · simp only [List.cons.injEq, Value.slice.injEq, and_true] at hcs
    obtain ⟨rfl, rfl, rfl⟩ := hcs
    exact ⟨[], rfl, Nat.zero_le _, Msl.nil _ _, fun m hm => by simp at hm, fun m hm => by simp at hm⟩
  · simp only [List.cons.injEq, Value.slice.injEq, and_true] at hcs
    obtain ⟨rfl, rfl, rfl⟩ := hcs
    simp only [Prod.mk.injEq] at hx
    obtain ⟨rfl, rfl⟩ := hx
    have hlm : len ≤ m' := by rw [hm]; split <;> omega
    have hlen : len ≤ 140737488351232 := by
      have := hw (((List.range len).map D).length + ((List.range (m' - len)).map fun j => D (len + j)).length |> (· * Tryz.prog.bytesOf 23)) (by rw [DataW.weights, hsl]; simp)
      have hb : Tryz.prog.bytesOf 23 = 48 := by kernel_rfl
      rw [hb, List.length_map, List.length_range] at this
      simp only [hrb] at this
      omega
    have key : ∀ i, i < len → ∃ m : MarkZ, MarkIn W (a.add (i * 5)) m := by
      intro i hil
      obtain ⟨ys, n, hD, _, hyl, hf⟩ := hi i (by omega)
      obtain ⟨v0, y0, k0, q0, r0⟩ := hf 0 _ rfl
      obtain ⟨v1, y1, k1, q1, r1⟩ := hf 1 _ rfl
      obtain ⟨v2, y2, k2, q2, r2⟩ := hf 2 _ rfl
      obtain ⟨v3, y3, k3, q3, r3⟩ := hf 3 _ rfl
      obtain ⟨v4, y4, k4, q4, r4⟩ := hf 4 _ rfl
      obtain ⟨z0, e0, rfl, w0⟩ := DataW.trod_int Tryz.underlying5 r0
      obtain ⟨z1, e1, rfl, w1⟩ := DataW.trod_int Tryz.underlying3 r1
      obtain ⟨z2, e2, rfl, w2⟩ := DataW.trod_int Tryz.underlying3 r2
      obtain ⟨z3, e3, rfl, w3⟩ := DataW.trod_int Tryz.underlying2 r3
      obtain ⟨z4, e4, rfl, w4⟩ := DataW.trod_string Tryz.underlying9 r4
      obtain rfl := List.cons.inj e0 |>.1
      obtain rfl := List.cons.inj e1 |>.1
      obtain rfl := List.cons.inj e2 |>.1
      obtain rfl := List.cons.inj e3 |>.1
      obtain rfl := List.cons.inj e4 |>.1
      have hb0 := bounds_u8 w0
      have hb3 := bounds_i64 w3
      have hsz : z4.data.toList.length ≤ 140737488351232 := by
        have hmem : D i ∈ (List.range len).map D := List.mem_map.2 ⟨i, List.mem_range.2 hil, rfl⟩
        have h4 : (ys.map (·.1))[4]? = some (.lit (.string z4.data.toList)) := by rw [List.getElem?_map, q4]; rfl
        have h5 : z4.data.toList.length ∈ (D i).weights Tryz.prog 23 := by
          rw [hD, DataW.weights, hst]
          exact DataW.weights_mem_each (j := 4) rfl h4 _ (by simp [DataW.weights])
        have h6 := hw z4.data.toList.length (by
          rw [DataW.weights, hsl]
          exact List.mem_cons_of_mem _ (List.mem_append_left _ (weights_all_mem hmem _ h5)))
        rw [hrb] at h6
        exact h6
      obtain ⟨n0, rfl⟩ : ∃ n0 : Nat, z0 = (n0 : Int) := ⟨z0.toNat, by omega⟩
      refine ⟨(n0, z1, z2, z3, z4.data.toList), ?_, hb3, hsz⟩
      intro j u hj
      rw [Go.Deep.add_add]
      match j, hj with
      | 0, hj => simp [zCells] at hj; subst hj; exact k0
      | 1, hj => simp [zCells] at hj; subst hj; exact k1
      | 2, hj => simp [zCells] at hj; subst hj; exact k2
      | 3, hj => simp [zCells] at hj; subst hj; exact k3
      | 4, hj => simp [zCells, bs_of] at hj; subst hj; exact k4
      | j + 5, hj => simp [zCells] at hj
    have : Inhabited MarkZ := ⟨(0, 0, 0, 0, [])⟩
    obtain ⟨M, hM⟩ := choose_lt key
    refine ⟨(List.range len).map M, by simp, by simpa using hlen, ?_, ?_, ?_⟩
    · intro hne
      have hpos : 0 < len := by
        rcases Nat.eq_zero_or_pos len with h0 | h0
        · subst h0; exact absurd rfl hne
        · exact h0
      have c0 := (hM 0 hpos).1 0 _ rfl
      obtain ⟨g, o, spot⟩ := a
      have hspot : spot = none := by simpa [Addr.add] using World.cell?_spot c0
      subst hspot
      refine ⟨g, o, rfl, ⟨fun _ => ?_, fun j u hj => ?_⟩⟩
      · have := block_lt_of_cell c0
        simpa [Addr.add] using this
      · have hjl := (List.getElem?_eq_some_iff.1 hj).1
        have hcl : (cellsZ ((List.range len).map M)).length = len * 5 := by
          have : ∀ l : List MarkZ, (cellsZ l).length = l.length * 5 := by
            intro l
            induction l with
            | nil => rfl
            | cons m r ih =>
              have e : cellsZ (m :: r) = zCells m ++ cellsZ r := rfl
              rw [e, List.length_append, ih, List.length_cons]
              show 5 + _ = _
              omega
          rw [this]; simp
        have hi5 : j / 5 < len := by omega
        have hget : ((List.range len).map M)[j / 5]? = some (M (j / 5)) := by simp [hi5]
        have h1 := cellsZ_at _ (j / 5) (j % 5) _ hget (Nat.mod_lt _ (by decide))
        rw [show j / 5 * 5 + j % 5 = j by omega, hj] at h1
        have h2 := (hM (j / 5) hi5).1 (j % 5) u h1.symm
        rw [Go.Deep.add_add, show j / 5 * 5 + j % 5 = j by omega] at h2
        by_cases hj0 : j = 0
        · subst hj0; simpa [Addr.add] using h2
        · simpa [Addr.add, hj0] using h2
    · intro m hm
      obtain ⟨i, hi, rfl⟩ := List.mem_map.1 hm
      exact (hM i (List.mem_range.1 hi)).2.1
    · intro m hm
      obtain ⟨i, hi, rfl⟩ := List.mem_map.1 hm
      exact (hM i (List.mem_range.1 hi)).2.2
end Go.Proofs.YtckmhbgpaiocbaaGreatDoor
