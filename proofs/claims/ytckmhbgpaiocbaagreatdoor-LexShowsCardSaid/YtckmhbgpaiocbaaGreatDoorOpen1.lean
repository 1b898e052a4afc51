/- A mark that came in by value, opened; how long a slice of marks may be. -/
import Derived.Test.YtckmhbgpaiocbaaGreatDoorOpenM
import Derived.Lib.SmallJoins
namespace Go.Proofs.YtckmhbgpaiocbaaGreatDoor
open Go.ChangeShapes Go.WideShapes Go.Deep Go.RowKit Go.Joins

section
variable {H : Type} {enc : TypeId × Value → H} {P : Program} {W : World} {base : Nat} {sp : Nat → Bool} {held : Bool}
/-- A struct of five fields of one cell each, by value: each field's own reading. -/
theorem open_five {r : Reach} {b0 : Nat} {t : TypeId} {f0 f1 f2 f3 f4 : Field} {v : Value} {d : DataW H} {p : List MemPlace} {fs : Array Field} (hst : P.underlying t = some (.struct fs)) (hone : oneCellFields P fs = true) (hfs : fs = #[f0, f1, f2, f3, f4]) (hC : P.cellsOf t = 5)
    (hv : Value.okWide P W r b0 t v) (h : DataW.Trod enc P W base sp held t v d p) :
    ∃ (x0 x1 x2 x3 x4 : Value) (y0 y1 y2 y3 y4 : DataW H × List MemPlace) (n : Nat), v = .agg #[x0, x1, x2, x3, x4] ∧ d = .agg [y0.1, y1.1, y2.1, y3.1, y4.1] ∧
      DataW.trod enc P W base sp held n f0.type [x0] = some y0 ∧ DataW.trod enc P W base sp held n f1.type [x1] = some y1 ∧ DataW.trod enc P W base sp held n f2.type [x2] = some y2 ∧ DataW.trod enc P W base sp held n f3.type [x3] = some y3 ∧ DataW.trod enc P W base sp held n f4.type [x4] = some y4 := by
  subst hfs
  obtain ⟨cs, rfl, hsz⟩ := okWide_struct hst hv
  obtain ⟨l⟩ := cs
  match l, hsz.trans hC with
  | [x0, x1, x2, x3, x4], _ =>
    obtain ⟨fuel, hf⟩ := h
    obtain ⟨ys, n, _, hx, _, hlen, hg⟩ := DataW.trod_struct hst hf
    match ys, hlen with
    | [y0, y1, y2, y3, y4], _ =>
      simp only [Prod.mk.injEq] at hx
      obtain ⟨o0, k0⟩ := hone_of hone 0 f0 rfl
      obtain ⟨o1, k1⟩ := hone_of hone 1 f1 rfl
      obtain ⟨o2, k2⟩ := hone_of hone 2 f2 rfl
      obtain ⟨o3, k3⟩ := hone_of hone 3 f3 rfl
      obtain ⟨o4, k4⟩ := hone_of hone 4 f4 rfl
      exact ⟨x0, x1, x2, x3, x4, y0, y1, y2, y3, y4, n, rfl, by simpa using hx.1, by simpa [Value.cells, o0, k0] using hg 0 f0 rfl, by simpa [Value.cells, o1, k1] using hg 1 f1 rfl, by simpa [Value.cells, o2, k2] using hg 2 f2 rfl, by simpa [Value.cells, o3, k3] using hg 3 f3 rfl, by simpa [Value.cells, o4, k4] using hg 4 f4 rfl⟩
end
set_option maxRecDepth 100000 in
theorem open_mark {H : Type} {enc : TypeId × Value → H} {W : World} {sp : Nat → Bool} {held : Bool} {r : Reach} {b0 : Nat} {v : Value} {d : DataW H} {p : List MemPlace}
    (hv : Value.okWide Tryz.prog W r b0 23 v) (h : DataW.Trod enc Tryz.prog W 0 sp held 23 v d p) (hw : ∀ n ∈ d.weights Tryz.prog 23, n ≤ reachBytes) :
    ∃ m : MarkZ, v = .agg #[.int .u8 m.1, .int .i64 m.2.1, .int .i64 m.2.2.1, .int .i64 m.2.2.2.1, .string (bs m.2.2.2.2)] ∧ -9223372036854775808 ≤ m.2.2.2.1 ∧ m.2.2.2.1 ≤ 9223372036854775807 ∧ m.2.2.2.2.length ≤ 140737488351232 := by
  have hst := Tryz.underlying23
  obtain ⟨x0, x1, x2, x3, x4, y0, y1, y2, y3, y4, n, rfl, hd, r0, r1, r2, r3, r4⟩ := open_five hst (by kernel_rfl) rfl (by kernel_rfl) hv h
  obtain ⟨z0, e0, rfl, w0⟩ := DataW.trod_int Tryz.underlying5 r0
  obtain ⟨z1, e1, rfl, w1⟩ := DataW.trod_int Tryz.underlying3 r1
  obtain ⟨z2, e2, rfl, w2⟩ := DataW.trod_int Tryz.underlying3 r2
  obtain ⟨z3, e3, rfl, w3⟩ := DataW.trod_int Tryz.underlying2 r3
  obtain ⟨z4, e4, rfl, w4⟩ := DataW.trod_string Tryz.underlying9 r4
  obtain rfl := List.cons.inj e0 |>.1
  obtain rfl := List.cons.inj e1 |>.1
  obtain rfl := List.cons.inj e2 |>.1
  obtain rfl := List.cons.inj e3 |>.1
  obtain rfl := List.cons.inj e4 |>.1
  have hb0 := bounds_u8 w0
  have hb3 := bounds_i64 w3
  obtain ⟨n0, rfl⟩ : ∃ n0 : Nat, z0 = (n0 : Int) := ⟨z0.toNat, by omega⟩
  refine ⟨(n0, z1, z2, z3, z4.data.toList), by rw [bs_of], hb3.1, hb3.2, ?_⟩
  have h6 := hw z4.data.toList.length (by
    rw [hd, DataW.weights, hst]
    exact DataW.weights_mem_each (j := 4) rfl rfl _ (by simp [DataW.weights]))
  exact h6
theorem open_marks_len {H : Type} {enc : TypeId × Value → H} {W : World} {sp : Nat → Bool} {held : Bool} {fuel len cap : Nat} {A : Option Addr} {d : DataW H} {p : List MemPlace}
    (h : DataW.trod enc Tryz.prog W 0 sp held fuel 24 [.slice A len cap] = some (d, p)) (hw : ∀ n ∈ d.weights Tryz.prog 24, n ≤ reachBytes) : len * 48 ≤ 140737488351232 := by
  have hrb : reachBytes = 140737488351232 := rfl
  have hst := Tryz.underlying23
  have hsl := Tryz.underlying24
  rcases open_slice_fields hsl hst (by kernel_rfl) (by kernel_rfl) h with ⟨hcs, _⟩ | ⟨a, len', cap', m', D, Pl, hcs, _, hlc, hcm, hm, hx, hi⟩
  · simp only [List.cons.injEq, Value.slice.injEq, and_true] at hcs
    obtain ⟨rfl, rfl, rfl⟩ := hcs
    omega
  · simp only [List.cons.injEq, Value.slice.injEq, and_true] at hcs
    obtain ⟨rfl, rfl, rfl⟩ := hcs
    simp only [Prod.mk.injEq] at hx
    obtain ⟨rfl, rfl⟩ := hx
    have := hw (((List.range len).map D).length + ((List.range (m' - len)).map fun j => D (len + j)).length |> (· * Tryz.prog.bytesOf 23)) (by rw [DataW.weights, hsl]; simp)
    have hb : Tryz.prog.bytesOf 23 = 48 := by kernel_rfl
    rw [hb, List.length_map, List.length_range] at this
    simp only [hrb] at this
    omega
end Go.Proofs.YtckmhbgpaiocbaaGreatDoor
