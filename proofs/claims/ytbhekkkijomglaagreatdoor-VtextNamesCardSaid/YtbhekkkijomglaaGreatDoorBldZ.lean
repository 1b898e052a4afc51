/- Put together: Bld, LexS, LexJ, ValP. -/
import Derived.Test.YtbhekkkijomglaaGreatDoorLexW4Z
import Derived.Test.YtbhekkkijomglaaGreatDoorLexA
import Derived.Shelf.Strings.BuilderF
import Derived.Lib.ItoaNum
import Derived.Lib.BitFns
namespace Go.Proofs.YtbhekkkijomglaaGreatDoor
/-! strings.Builder's copyCheck and WriteString (the shelf's walks, turned to this program: its lay fails here). -/
section
open Go.RowKit

set_option maxHeartbeats 1000000 in
set_option maxRecDepth 100000 in
theorem check_used (b : Nat) (w : World) (h0 : w.cell? ⟨b, 0, none⟩ = some (.pointer (some ⟨b, 0, none⟩))) :
    Calls Tryz.prog 68 #[.pointer (some ⟨b, 0, none⟩)] w fun e w' => e = .returned (.tuple #[]) ∧ w' = w := by
  obtain ⟨j, hj, _⟩ := Option.map_eq_some_iff.1 (Tryz.Builder_Extra_169).sizeBuilder
  go_enter Tryz.func68, Tryz.ntmps68
  go_wp2
  rw [Lib.run_neq_ptr_same w _ Tryz.underlying60 hj]
  go_wp2
  go_end0
  exact ⟨rfl, rfl⟩

set_option maxHeartbeats 1000000 in
set_option maxRecDepth 100000 in
theorem check_fresh (b : Nat) (w : World) (h0 : w.cell? ⟨b, 0, none⟩ = some (.pointer none)) (hsh : w.shape? b = some (62, 2)) (hfz : w.frozen? ⟨b, 0, none⟩ = false) :
    Calls Tryz.prog 68 #[.pointer (some ⟨b, 0, none⟩)] w fun e w' => e = .returned (.tuple #[]) ∧ w' = w.setCell ⟨b, 0, none⟩ (.pointer (some ⟨b, 0, none⟩)) := by
  obtain ⟨j, hj, hjs⟩ := Option.map_eq_some_iff.1 (Tryz.Builder_Extra_169).sizeBuilder
  have U104 : Tryz.prog.underlying 146 = some .unsafePointer := by kernel_rfl
  go_enter Tryz.func68, Tryz.ntmps68
  go_wp2
  rw [Lib.run_to_unsafe w ⟨b, 0, none⟩ Tryz.underlying60 U104 hj (by rw [hjs]; decide) hsh (Nat.zero_lt_succ 1)]
  simp only [Result.andThen]
  rw [Oper.upon_value]
  go_wp2
  rw [run_callFunc_extern Tryz.func94 (by kernel_rfl) (by kernel_rfl) (by kernel_rfl) (e := Extern.AbiNoEscape.same) (by kernel_rfl)]
  rw [Lib.run_noEscape]
  simp only [Result.andThen]
  rw [Oper.upon_value]
  go_wp2
  rw [Lib.run_from_unsafe w ⟨b, 0, none⟩ U104 Tryz.underlying60 hj hsh (Tryz.Builder_Extra_169).liesBuilder]
  simp only [Result.andThen]
  rw [Oper.upon_value]
  go_wp2
  go_end0
  exact ⟨rfl, rfl⟩

theorem check_any (B b : Nat) (xs : List Value) (w : World) (h : Lib.IsBuilderF 62 5 B b xs w) :
    Calls Tryz.prog 68 #[.pointer (some ⟨b, 0, none⟩)] w fun e w' => e = .returned (.tuple #[]) ∧ (Lib.BuilderAtF 62 5 B b (.pointer (some ⟨b, 0, none⟩)) xs w' ∧ Below B w w') := by
  rcases h with h | h
  · refine (check_fresh b w h.cell0 h.shape h.frozen0).mono ?_
    rintro e w' ⟨rfl, rfl⟩
    exact ⟨rfl, h.used _, (Below.refl B w).setCell (p := ⟨b, 0, none⟩) h.1 _⟩
  · refine (check_used b w h.cell0).mono ?_
    rintro e w' ⟨rfl, rfl⟩
    exact ⟨rfl, h, Below.refl B _⟩

set_option maxHeartbeats 2000000 in
set_option maxRecDepth 100000 in
theorem write_any (B b : Nat) (xs : List Value) (s : ByteArray) (w : World) (h : Lib.IsBuilderF 62 5 B b xs w) (hlen : xs.length + s.size ≤ 140737488355328) (hBw : B ≤ w.heap.size) :
    Calls Tryz.prog 43 #[.pointer (some ⟨b, 0, none⟩), .string s] w fun e w' => e = .returned (.tuple #[.int .i64 s.size, .nilIface]) ∧ (Lib.BuilderAtF 62 5 B b (.pointer (some ⟨b, 0, none⟩)) (xs ++ Lib.strCells s) w' ∧ Below B w w') := by
  obtain ⟨i0, hi, hz0, hz1, hz2⟩ := info_parts (Tryz.Builder_Extra_169).infoByte
  go_enter Tryz.func43, Tryz.ntmps43
  go_wp2_with fail
  refine (check_any B b xs _ h).mono ?_
  rintro e w1 ⟨rfl, h1, hb1⟩
  obtain ⟨hB, v, hbk, hown, hne⟩ := h1
  have c0 : w1.cell? ⟨b, 0, none⟩ = some (.pointer (some ⟨b, 0, none⟩)) := by rw [Lib.cell_of_heap hbk]; rfl
  have c1 : w1.cell? ⟨b, 1, none⟩ = some v := by rw [Lib.cell_of_heap hbk]; rfl
  go_wp2_with (at_builtin; refine Lib.wpList_append_own_stringF _ rfl _ _ 40 9 rfl B 5 i0 Tryz.underlying40 Tryz.underlying9 hi hz0 hz1 hz2 _ _ _ rfl hown s rfl ?c3 ?c4 ?c5 ?_)
  case c3 => unfold maxLen; omega
  case c4 => omega
  case c5 => have := hb1.size; omega
  intro v' w2 hown' hgrow _
  have hlt : b < w1.heap.size := by
    rcases Nat.lt_or_ge b w1.heap.size with h' | h'
    · exact h'
    · simp [Array.getElem?_eq_none h'] at hbk
  have hb2 : w2.heap[b]? = some (.cells #[.pointer (some ⟨b, 0, none⟩), v] 62 (0, 0)) := by
    rw [hgrow.block b hlt (fun e => hne e.symm)]
    exact hbk
  have d0 : w2.cell? ⟨b, 0, none⟩ = some (.pointer (some ⟨b, 0, none⟩)) := by rw [Lib.cell_of_heap hb2]; rfl
  have d1 : w2.cell? ⟨b, 1, none⟩ = some v := by rw [Lib.cell_of_heap hb2]; rfl
  have f1 : w2.frozen? ⟨b, 1, none⟩ = false := Lib.frozen_of_heap hb2 1
  obtain ⟨ao, n', cap, rfl⟩ : ∃ ao n' cap, v' = .slice ao n' cap := by
    rcases hown'.2 with ⟨hv, _⟩ | ⟨g, cap, cur, fz, hv, _⟩
    · exact ⟨_, _, _, hv⟩
    · exact ⟨_, _, _, hv⟩
  go_wp2
  go_ret2
  refine ⟨rfl, ?_, ?_⟩
  · exact Lib.BuilderAtF.put (T := 62) (e := 5) hB hb2 (bs' := xs ++ Lib.strCells s) (by simpa [Lib.strCells_length] using hown') (by decide)
  · exact (hb1.grown hgrow (by have := hb1.size; omega) (fun k hk => (hown.lt k hk).1)).setCell (p := ⟨b, 1, none⟩) hB _
end

/-! A mark's run, in plain Lean. No program in sight. -/
section
open Go

def brList : List UInt8 := [40, 41, 91, 93, 60, 62]
def showRun (k : Nat) (n : Int) (l : List UInt8) : List UInt8 :=
  if 1 ≤ k ∧ k ≤ 6 then (brList.drop (k - 1)).take 1
  else if k = 7 then (if lettersB l = true then l else [])
  else if k = 8 then Lib.itoa n
  else if k = 9 then (if isB l = true then 35 :: l else [])
  else []
def lexShow (k : Nat) (n : Int) (l : List UInt8) : List UInt8 × Nat :=
  if showRun k n l = [] ∨ (k ≠ 8 ∧ n ≠ 0) ∨ (k ≠ 7 ∧ k ≠ 9 ∧ l ≠ []) then ([], 3) else (showRun k n l, 0)
end

/-! The runs of marks, put together, in plain Lean. No program in sight. -/
section
open Go

/-- A mark with places whatever. -/
abbrev MarkZ := Nat × Int × Int × Int × List UInt8
def ofT (m : MarkT) : MarkZ := (m.1, m.2.1, m.2.2.1, m.2.2.2.1, m.2.2.2.2)
def markShow (m : MarkZ) : List UInt8 × Nat := lexShow m.1 m.2.2.2.1 m.2.2.2.2
def zCells (m : MarkZ) : List Value := [.int .u8 m.1, .int .i64 m.2.1, .int .i64 m.2.2.1, .int .i64 m.2.2.2.1, .string (bs m.2.2.2.2)]
def cellsZ (ms : List MarkZ) : List Value := ms.flatMap zCells
theorem cellsZ_of (ms : List MarkT) : cellsZ (ms.map ofT) = cellsOf ms := by
  unfold cellsZ cellsOf
  rw [List.flatMap_map]
  rfl
theorem cellsZ_at : ∀ (ms : List MarkZ) (k j : Nat) (m : MarkZ), ms[k]? = some m → j < 5 → (cellsZ ms)[k * 5 + j]? = (zCells m)[j]?
  | [], k, j, m, h, _ => by simp at h
  | x :: r, 0, j, m, h, hj => by
    simp at h
    subst h
    show (zCells x ++ cellsZ r)[0 * 5 + j]? = _
    rw [List.getElem?_append_left (by show 0 * 5 + j < 5; omega), Nat.zero_mul, Nat.zero_add]
  | x :: r, k + 1, j, m, h, hj => by
    have ih := cellsZ_at r k j m (by simpa using h) hj
    show (zCells x ++ cellsZ r)[(k + 1) * 5 + j]? = _
    rw [List.getElem?_append_right (by show 5 ≤ (k + 1) * 5 + j; omega), ← ih]
    congr 1
    show (k + 1) * 5 + j - 5 = _
    omega
/-- Join from the k-th mark on, with what is written. -/
def joinGo : Nat → List UInt8 → List MarkZ → List UInt8 × Nat
  | _, acc, [] => if 65536 < acc.length then ([], 5) else (acc, 0)
  | k, acc, m :: r => if (markShow m).2 ≠ 0 then ([], (markShow m).2) else joinGo (k + 1) ((if 0 < k then acc ++ [32] else acc) ++ (markShow m).1) r
def lexJoin (ms : List MarkZ) : List UInt8 × Nat := joinGo 0 [] ms

theorem dec_len : ∀ (k u : Nat), u < 10 ^ (k + 1) → (Lib.decDigits u).length ≤ k + 1 := by
  intro k
  induction k with
  | zero =>
    intro u h
    rw [Lib.decDigits, dif_pos (by simpa using h)]
    simp
  | succ k ih =>
    intro u h
    rw [Lib.decDigits]
    split
    · simp
    · rw [List.length_append]
      have := ih (u / 10) (by rw [Nat.div_lt_iff_lt_mul (by decide)]; rw [Nat.pow_succ] at h; exact h)
      simp
      omega
theorem itoa_len (n : Int) (h0 : -9223372036854775808 ≤ n) (h1 : n ≤ 9223372036854775807) : (Lib.itoa n).length ≤ 21 := by
  unfold Lib.itoa
  split
  · have := dec_len 19 n.natAbs (Nat.lt_of_lt_of_le (by omega : _ < 100000000000000000000) (by decide))
    rw [List.length_cons]; omega
  · have := dec_len 19 n.toNat (Nat.lt_of_lt_of_le (by omega : _ < 100000000000000000000) (by decide))
    omega
theorem show_len (m : MarkZ) (h0 : -9223372036854775808 ≤ m.2.2.2.1) (h1 : m.2.2.2.1 ≤ 9223372036854775807) : (markShow m).1.length ≤ m.2.2.2.2.length + 21 := by
  have := itoa_len _ h0 h1
  unfold markShow lexShow
  split
  · simp
  · unfold showRun
    repeat' split
    all_goals simp
    all_goals omega
end

/-! Values and their texts, in plain Lean. No program in sight. -/
section
open Go

/-- A value: its kind, its number, its items. -/
inductive V where
  | mk (k : Nat) (n : Int) (l : List V)
def V.k : V → Nat | .mk k _ _ => k
def V.n : V → Int | .mk _ n _ => n
def V.l : V → List V | .mk _ _ l => l
theorem V.eta (v : V) : v = .mk v.k v.n v.l := by cases v; rfl
theorem V.ind {P : V → Prop} (h : ∀ k n l, (∀ x ∈ l, P x) → P (.mk k n l)) : ∀ v, P v := by
  intro v
  induction hs : SizeOf.sizeOf v using Nat.strongRecOn generalizing v with
  | _ s ih =>
    cases v with
    | mk k n l =>
      refine h k n l fun x hx => ih (SizeOf.sizeOf x) ?_ x rfl
      have := List.sizeOf_lt_of_mem hx
      rw [← hs, V.mk.sizeOf_spec]
      omega

mutual
def V.size : V → Nat
  | .mk _ _ l => 1 + V.sizes l
def V.sizes : List V → Nat
  | [] => 0
  | x :: r => x.size + V.sizes r
end
mutual
def V.deep : V → Nat
  | .mk _ _ l => 1 + V.deeps l
def V.deeps : List V → Nat
  | [] => 0
  | x :: r => max x.deep (V.deeps r)
end
/-- What is wrong of a value, but for its items. -/
def nodeE (k : Nat) (n : Int) (len : Nat) : Nat :=
  if k = 1 ∧ (n < -1099511627776 ∨ 1099511627776 < n) then 1
  else if k = 2 ∧ n ≠ 0 ∧ n ≠ 1 then 1
  else if (k = 3 ∨ k = 4) ∧ n ≠ 0 then 3
  else if k = 0 ∨ 4 < k then 11
  else if (k = 1 ∨ k = 2) ∧ 0 < len then 3
  else if 64 < len then 5
  else 0
mutual
def V.first : V → Nat
  | .mk k n l => if nodeE k n l.length ≠ 0 then nodeE k n l.length else V.firsts l
def V.firsts : List V → Nat
  | [] => 0
  | x :: r => if x.first ≠ 0 then x.first else V.firsts r
end
def V.check (v : V) : Nat := if v.first ≠ 0 then v.first else if 128 < v.deep then 9 else if 4096 < v.size then 5 else 0
def openB (k : Nat) : UInt8 := if k = 3 then 60 else 91
def shutB (k : Nat) : UInt8 := if k = 3 then 62 else 93
mutual
def V.text : V → List UInt8
  | .mk k n l => if k = 1 then Lib.itoa n else if k = 2 then (if n = 1 then [116, 114, 117, 101] else [102, 97, 108, 115, 101]) else openB k :: (V.texts true l ++ [shutB k])
def V.texts : Bool → List V → List UInt8
  | _, [] => []
  | f, x :: r => (if f = true then x.text else 32 :: x.text) ++ V.texts false r
end
/-- A value's text, or why there is none. -/
def showV (v : V) : List UInt8 × Nat := if v.check ≠ 0 then ([], v.check) else if 65536 < v.text.length then ([], 5) else (v.text, 0)

theorem sizes_pos (v : V) : 0 < v.size := by cases v; rw [V.size]; omega
theorem size_mem {x : V} {l : List V} (h : x ∈ l) : x.size ≤ V.sizes l := by
  induction l with
  | nil => cases h
  | cons y r ih =>
    rw [V.sizes]
    rcases List.mem_cons.1 h with rfl | h
    · omega
    · have := ih h; omega
theorem deep_mem {x : V} {l : List V} (h : x ∈ l) : x.deep ≤ V.deeps l := by
  induction l with
  | nil => cases h
  | cons y r ih =>
    rw [V.deeps]
    rcases List.mem_cons.1 h with rfl | h
    · omega
    · have := ih h; omega
theorem firsts_zero {l : List V} : V.firsts l = 0 ↔ ∀ x ∈ l, x.first = 0 := by
  induction l with
  | nil => simp [V.firsts]
  | cons y r ih =>
    rw [V.firsts]
    by_cases h : y.first ≠ 0
    · rw [if_pos h]
      exact ⟨fun e => absurd e h, fun e => e y List.mem_cons_self⟩
    · rw [if_neg h, ih]
      have h' : y.first = 0 := by omega
      exact ⟨fun e x hx => by rcases List.mem_cons.1 hx with rfl | hx; exact h'; exact e x hx, fun e x hx => e x (List.mem_cons_of_mem _ hx)⟩
theorem first_zero {k : Nat} {n : Int} {l : List V} : (V.mk k n l).first = 0 ↔ nodeE k n l.length = 0 ∧ ∀ x ∈ l, x.first = 0 := by
  rw [V.first]
  by_cases h : nodeE k n l.length ≠ 0
  · rw [if_pos h]; exact ⟨fun e => absurd e h, fun e => e.1⟩
  · rw [if_neg h, firsts_zero]; exact ⟨fun e => ⟨by omega, e⟩, fun e => e.2⟩
end
end Go.Proofs.YtbhekkkijomglaaGreatDoor
