/- VtextNames: the region that lays its table, whatever the order. -/
import Derived.Test.YtbhekkkijomglaaGreatDoorAwB
import Derived.Test.YtbhekkkijomglaaGreatDoorNmW
import Derived.Test.YtbhekkkijomglaaGreatDoorOrd
import Derived.Great.BuildSlice
import Derived.Laws.MakeOwn
namespace Go.Proofs.YtbhekkkijomglaaGreatDoor
open Go.RowKit

def rowV (S : ByteArray) (p e : Int) : Value := .agg #[.string S, .int .i64 p, .int .i64 e]
def nmRow (i : Nat) : Value := rowV (nmS i) (nmP i) (nmE i)
def nmCells : Array Value := ((List.range 27).flatMap fun i => [.string (nmS i), .int .i64 (nmP i), .int .i64 (nmE i)]).toArray
abbrev z64 : ByteArray := bs (repsL [48, 32] 64)
abbrev o128 : ByteArray := bs (repsL [91] 128)
/-- What stands in an operation's slot; none: memory that is made. -/
def nmVal : Nat → Option Value
  | 0 => some (nmRow 0)
  | 1 => some (nmRow 1)
  | 2 => some (nmRow 2)
  | 3 => some (nmRow 3)
  | 4 => some (nmRow 4)
  | 5 => some (nmRow 5)
  | 6 => some (nmRow 6)
  | 7 => some (nmRow 7)
  | 8 => some (nmRow 8)
  | 9 => some (nmRow 9)
  | 10 => some (nmRow 10)
  | 11 => some (nmRow 11)
  | 12 => some (nmRow 12)
  | 13 => some (nmRow 13)
  | 14 => some (nmRow 14)
  | 15 => some (nmRow 15)
  | 16 => some (nmRow 16)
  | 17 => some (nmRow 17)
  | 18 => some (.string z64)
  | 19 => some (.string ((⟨#[91]⟩ : ByteArray) ++ z64))
  | 20 => some (.string (nmS 18))
  | 21 => some (nmRow 18)
  | 22 => some (.string z64)
  | 23 => some (.string ((⟨#[91]⟩ : ByteArray) ++ z64))
  | 24 => some (.string (nmS 19))
  | 25 => some (nmRow 19)
  | 26 => some (.string z64)
  | 27 => some (.string ((⟨#[91]⟩ : ByteArray) ++ z64))
  | 28 => some (.string (nmS 20))
  | 29 => some (nmRow 20)
  | 30 => some (.string o128)
  | 31 => some (.string (bs (repsL [93] 128)))
  | 32 => some (.string (nmS 21))
  | 33 => some (nmRow 21)
  | 34 => some (.string o128)
  | 35 => some (.string (nmS 22))
  | 36 => some (nmRow 22)
  | 37 => some (.string (nmS 23))
  | 38 => some (nmRow 23)
  | 39 => some (.string o128)
  | 40 => some (.string (nmS 24))
  | 41 => some (nmRow 24)
  | 43 => some (.string (nmS 25))
  | 44 => some (nmRow 25)
  | 46 => some (.string (nmS 26))
  | 47 => some (nmRow 26)
  | 49 => some (.int .i64 27)
  | 50 => some (.int .i64 0)
  | _ => none
/-- An operation of the region that yields a value. -/
def VAt (ops : Array Oper) (i : Nat) (a : Act) (w : World) (v : Value) (w' : World) : Prop := ∃ o, ops[i]? = some o ∧ o.guard = none ∧ o.dst = some (53 + i) ∧ (execOp a.eval o).run Tryz.prog w = .ok (.value v) w'
/-- One that calls. -/
def CAt (ops : Array Oper) (i : Nat) (a : Act) (w : World) (f : FuncId) (args : Array Value) : Prop := ∃ o, ops[i]? = some o ∧ o.guard = none ∧ o.dst = some (53 + i) ∧ (execOp a.eval o).run Tryz.prog w = .ok (.enter f args) w
def aftB (ops : Array Oper) (i j : Nat) : Bool := ((ops[i]?).map (·.after.any fun e => Region.binds .any e && e.on == j)).getD false
theorem aft_of {ops : Array Oper} {i j : Nat} {l : Array Bool} (h : aftB ops i j = true) (hi : i ∈ Region.ready .any ops l) : l.getD j false = true := by
  obtain ⟨_, _, h3⟩ := ready_at hi
  unfold aftB at h
  cases ho : ops[i]? with
  | none => rw [ho] at h; cases h
  | some o =>
    rw [ho] at h h3
    simp only [Option.map_some, Option.getD_some] at h h3
    rw [Array.any_eq_true] at h
    rw [Array.all_eq_true] at h3
    obtain ⟨k, hk, he⟩ := h
    have h4 := h3 k hk
    simp only [Bool.and_eq_true, beq_iff_eq] at he
    rw [he.1, he.2] at h4
    simpa using h4
def orderB (ops : Array Oper) : Bool := (List.range ops.size).all fun i => ((ops[i]?).map (·.after.all fun e => decide (e.on < i))).getD false
theorem ready_first {ops : Array Oper} {l : Array Bool} (h : orderB ops = true) {i : Nat} (hi : i < ops.size) (h0 : l.getD i true = false) (h1 : ∀ j, j < i → l.getD j false = true) : i ∈ Region.ready .any ops l := by
  unfold Region.ready
  rw [List.mem_filter, List.mem_range]
  refine ⟨hi, ?_⟩
  unfold orderB at h
  rw [List.all_eq_true] at h
  have h2 := h i (List.mem_range.2 hi)
  rw [h0]
  cases ho : ops[i]? with
  | none => rw [ho] at h2; cases h2
  | some o =>
    rw [ho] at h2
    simp only [Option.map_some, Option.getD_some] at h2 ⊢
    rw [Array.all_eq_true] at h2
    rw [Bool.and_eq_true]
    refine ⟨rfl, Array.all_eq_true.2 fun k hk => ?_⟩
    have h3 := h2 k hk
    rw [decide_eq_true_eq] at h3
    rw [h1 _ h3, Bool.or_true]
theorem all_listed {ops : Array Oper} {l : Array Bool} (h : orderB ops = true) (hs : l.size = ops.size) (hr : Region.ready .any ops l = []) : ∀ i, i < ops.size → l.getD i false = true := by
  intro i
  induction i using Nat.strongRecOn with
  | _ i ih =>
    intro hi
    cases h0 : l.getD i true with
    | false =>
      have := ready_first h hi h0 (fun j hj => ih j hj (by omega))
      rw [hr] at this
      cases this
    | true =>
      have hil : i < l.size := by omega
      rw [Array.getD_eq_getD_getElem?, Array.getElem?_eq_getElem hil] at h0 ⊢
      exact h0
theorem getD_false_set (l : Array Bool) (i j : Nat) (hi : i < l.size) (h : (l.setIfInBounds i true).getD j false = true) : j = i ∨ l.getD j false = true := by
  by_cases e : j = i
  · exact .inl e
  · right
    rw [Array.getD_eq_getD_getElem?, Array.getElem?_setIfInBounds, if_neg (fun q => e q.symm)] at h
    rw [Array.getD_eq_getD_getElem?]
    exact h
/-- What holds of an operation that has come up. -/
structure SlotOK (i : Nat) (a : Act) (W : World) : Prop where
  val : ∀ v, nmVal i = some v → a.tmps.getD (53 + i) undef = v
  m42 : i = 42 → ∃ g, a.tmps.getD 95 undef = .slice (some ⟨g, 0, none⟩) 65537 65537 ∧ Blk W g 5 (madeCells #[.int .u8 0] 65537)
  m45 : i = 45 → ∃ g, a.tmps.getD 98 undef = .slice (some ⟨g, 0, none⟩) 65536 65536 ∧ Blk W g 5 (madeCells #[.int .u8 0] 65536)
  m48 : i = 48 → ∃ g, a.tmps.getD 101 undef = .slice (some ⟨g, 0, none⟩) 27 27 ∧ Blk W g 38 nmCells
structure NmI (w : World) (l : Array Bool) (a : Act) (W : World) : Prop where
  ls : l.size = 51
  tz : a.tmps.size = 280
  df : a.defers = []
  e : Env W
  b : Below w.heap.size w W
  v : ∀ i, i < 51 → l.getD i false = true → SlotOK i a W
theorem SlotOK.move {i j : Nat} {a : Act} {W W' : World} {v : Value} (h : SlotOK j a W) (hb : Below W.heap.size W W') (hne : j ≠ i) : SlotOK j (a.put (some (53 + i)) v) W' where
  val := fun u hu => by rw [put_ne _ _ _ _ (by omega)]; exact h.val u hu
  m42 := fun e => by obtain ⟨g, h1, h2⟩ := h.m42 e; exact ⟨g, by rw [put_ne _ _ _ _ (by omega)]; exact h1, h2.below hb h2.lt⟩
  m45 := fun e => by obtain ⟨g, h1, h2⟩ := h.m45 e; exact ⟨g, by rw [put_ne _ _ _ _ (by omega)]; exact h1, h2.below hb h2.lt⟩
  m48 := fun e => by obtain ⟨g, h1, h2⟩ := h.m48 e; exact ⟨g, by rw [put_ne _ _ _ _ (by omega)]; exact h1, h2.below hb h2.lt⟩
theorem NmI.step {w : World} {l : Array Bool} {a : Act} {W W' : World} {i : Nat} {v : Value} (h : NmI w l a W) (hi : i < 51) (hb : Below W.heap.size W W') (hn : SlotOK i (a.put (some (53 + i)) v) W') : NmI w (l.setIfInBounds i true) (a.put (some (53 + i)) v) W' where
  ls := by rw [Array.size_setIfInBounds]; exact h.ls
  tz := by rw [put_size]; exact h.tz
  df := h.df
  e := h.e.step hb
  b := h.b.trans (hb.mono h.b.size)
  v := fun j hj hl => by
    by_cases e : j = i
    · subst e; exact hn
    · rcases getD_false_set l i j (by have := h.ls; omega) hl with q | q
      · exact absurd q e
      · exact (h.v j hj q).move hb e
section
variable {ops : Array Oper} {Q : Exit → Act → World → Prop} {w : World} {l : Array Bool} {a : Act} {W : World} {i : Nat} {v : Value}
theorem slot_val (h : NmI w l a W) (hi : i < 51) (hv : nmVal i = some v) (h42 : i ≠ 42) (h45 : i ≠ 45) (h48 : i ≠ 48) : SlotOK i (a.put (some (53 + i)) v) W :=
  ⟨fun u hu => by rw [hv] at hu; cases hu; exact put_at _ _ _ (by have := h.tz; omega), fun e => absurd e h42, fun e => absurd e h45, fun e => absurd e h48⟩
theorem step_v (h : NmI w l a W) (hi : i < 51) (hV : VAt ops i a W v W) (hv : nmVal i = some v) (h42 : i ≠ 42) (h45 : i ≠ 45) (h48 : i ≠ 48) : wpOp Tryz.prog ops Q i (NmI w (l.setIfInBounds i true)) a W := by
  obtain ⟨o, ho, hg, hd, hr⟩ := hV
  refine op_value ho hg hr ?_
  rw [hd]
  exact h.step hi (Below.refl _ _) (slot_val h hi hv h42 h45 h48)
theorem step_t (h : NmI w l a W) (hi : i < 51) {s : ByteArray} {n : Nat} (hC : CAt ops i a W 21 #[.string s, .int .i64 n]) (hn : n ≤ 100000) (hs : s.size ≤ 1000) (hv : nmVal i = some (.string (bs (repsL s.data.toList n)))) (h42 : i ≠ 42) (h45 : i ≠ 45) (h48 : i ≠ 48) : wpOp Tryz.prog ops Q i (NmI w (l.setIfInBounds i true)) a W := by
  obtain ⟨o, ho, hg, hd, hr⟩ := hC
  refine op_call ho hg hr ((times_any s n W hn hs).mono fun e w'' ⟨he, hb⟩ => ⟨_, he, ?_⟩)
  rw [hd]
  have hsl := slot_val h hi hv h42 h45 h48
  exact h.step hi hb ⟨hsl.val, fun e => absurd e h42, fun e => absurd e h45, fun e => absurd e h48⟩
theorem slot_of (h : NmI w l a W) {j : Nat} (hj : j < 51) (hl : l.getD j false = true) {u : Value} (hu : nmVal j = some u) : a.tmps.getD (53 + j) undef = u := (h.v j hj hl).val u hu
end
theorem made_at (n j : Nat) (h : j < n) : (madeCells #[Value.int .u8 0] n)[j]? = some (.int .u8 0) := by
  have := toList_madeCells_one (.int .u8 0) n
  rw [← Array.getElem?_toList, this, List.getElem?_replicate, if_pos h]
theorem made_run (n : Nat) (hn : n ≤ 100000) (W : World) : (Instr.makeSlice 40 (.int .i64 (n : Int)) (.int .i64 (n : Int))).run Tryz.prog W = .ok (.slice (some ⟨W.heap.size, 0, none⟩) n n) (W.alloc (.cells (madeCells #[.int .u8 0] n) 5)) := by
  obtain ⟨i0, hi, hz0, hz1, hz2⟩ := info_parts (P := Tryz.prog) (e := 5) (z := .int .u8 0) (size := 1) (bytes := 1) (by kernel_rfl)
  have h := run_make (P := Tryz.prog) W 40 5 i0 (.int .u8 0) Tryz.underlying40 hi hz0 .i64 .i64 n n (by omega) (Int.le_refl _) (by rw [hz2]; omega) (by omega)
  rw [hz1, Nat.mul_one, Int.toNat_natCast] at h
  exact h
theorem strOf_zeros (n : Nat) : strOfNums (List.replicate n (0 : Int)) = bs (List.replicate n 0) := by
  rw [← nums_str, List.map_replicate]
  rfl
theorem conv_run (n g : Nat) (W : World) (h : Blk W g 5 (madeCells #[.int .u8 0] n)) : (Go.convert 40 9 (.slice (some ⟨g, 0, none⟩) n n)).run Tryz.prog W = .ok (.string (bs (List.replicate n 0))) W := by
  rw [← strOf_zeros]
  refine run_convert_bytes_arg W _ 5 Tryz.underlying40 Tryz.underlying5 g 0 n n (List.replicate n 0) (by simp) (fun i hi => ?_) 9 Tryz.underlying9
  have hc := h.cell i
  rw [made_at n i hi] at hc
  rw [Nat.zero_add, hc]
  simp [List.getD, hi]
theorem ev_c (a : Act) (v : Value) : a.eval (.const v) = v := rfl
theorem ev_t (a : Act) (t : Nat) : a.eval (.tmp t) = a.tmps.getD t undef := rfl
theorem run_add_c {o : Oper} {a : Act} {W : World} {c s : ByteArray} {t : Nat} (h : o.op = .binOp .add 9 (.const (.string c)) (.tmp t) 9) (hs : a.tmps.getD t undef = .string s) (h1 : c.size ≤ 1000) (h2 : s.size ≤ 1000000) : (execOp a.eval o).run Tryz.prog W = .ok (.value (.string (c ++ s))) W := by
  have h3 : c.size + s.size ≤ 9223372036854775807 := by omega
  unfold execOp
  rw [h]
  simp [Act.eval, hs, go_sem, h3]
theorem run_add_t {o : Oper} {a : Act} {W : World} {c s : ByteArray} {t : Nat} (h : o.op = .binOp .add 9 (.tmp t) (.const (.string c)) 9) (hs : a.tmps.getD t undef = .string s) (h1 : c.size ≤ 1000) (h2 : s.size ≤ 1000000) : (execOp a.eval o).run Tryz.prog W = .ok (.value (.string (s ++ c))) W := by
  have h3 : s.size + c.size ≤ 9223372036854775807 := by omega
  unfold execOp
  rw [h]
  simp [Act.eval, hs, go_sem, h3]
theorem run_add_tt {o : Oper} {a : Act} {W : World} {c s : ByteArray} {t u : Nat} (h : o.op = .binOp .add 9 (.tmp t) (.tmp u) 9) (hs : a.tmps.getD t undef = .string s) (hc : a.tmps.getD u undef = .string c) (h1 : c.size ≤ 1000) (h2 : s.size ≤ 1000000) : (execOp a.eval o).run Tryz.prog W = .ok (.value (.string (s ++ c))) W := by
  have h3 : s.size + c.size ≤ 9223372036854775807 := by omega
  unfold execOp
  rw [h]
  simp [Act.eval, hs, hc, go_sem, h3]
theorem build_one (s : ByteArray) (p e : Int) (W : World) : (Instr.build 38 #[(0, .string s), (1, .int .i64 p), (2, .int .i64 e)]).run Tryz.prog W = .ok (rowV s p e) W := by kernel_rfl
set_option maxRecDepth 100000 in
theorem run_row {o : Oper} {a : Act} {W : World} {x : Operand} {s : ByteArray} {p e : Int} (h : o.op = .build 38 #[(0, x), (1, .const (.int .i64 p)), (2, .const (.int .i64 e))]) (hs : a.eval x = .string s) : (execOp a.eval o).run Tryz.prog W = .ok (.value (rowV s p e)) W := by
  have hb := build_one s p e W
  unfold execOp
  simp only [h, Sem.run_bind, List.map_toArray, List.map_cons, List.map_nil, hs, ev_c]
  rw [hb]
  rfl
theorem run_times {o : Oper} {a : Act} {W : World} {s : ByteArray} {n : Int} (h : o.op = .call { callee := .value (.func 21), args := #[.const (.string s), .const (.int .i64 n)], argTypes := #[9, 3] }) : (execOp a.eval o).run Tryz.prog W = .ok (.enter 21 #[.string s, .int .i64 n]) W := by
  unfold execOp
  rw [h]
  kernel_rfl
theorem run_mk {o : Oper} {a : Act} {W W' : World} {x y v : Value} (h : o.op = .makeSlice 40 (.const x) (.const y)) (hr : (Instr.makeSlice 40 x y).run Tryz.prog W = .ok v W') : (execOp a.eval o).run Tryz.prog W = .ok (.value v) W' := by
  unfold execOp
  simp only [h, Sem.run_bind]
  show Result.andThen ((Instr.makeSlice 40 x y).run Tryz.prog W) _ = _
  rw [hr]
  rfl
theorem run_cv {o : Oper} {a : Act} {W : World} {t : Nat} {u v : Value} (h : o.op = .convert 40 9 (.tmp t)) (hu : a.tmps.getD t undef = u) (hr : (Go.convert 40 9 u).run Tryz.prog W = .ok v W) : (execOp a.eval o).run Tryz.prog W = .ok (.value v) W := by
  unfold execOp
  simp only [h, Sem.run_bind]
  show Result.andThen ((Go.convert 40 9 (a.tmps.getD t undef)).run Tryz.prog W) _ = _
  rw [hu, hr]
  rfl
theorem run_len {o : Oper} {a : Act} {W : World} {g : Nat} (h : o.op = .call { callee := .builtin .len, args := #[.tmp 101], argTypes := #[41] }) (hs : a.tmps.getD 101 undef = .slice (some ⟨g, 0, none⟩) 27 27) : (execOp a.eval o).run Tryz.prog W = .ok (.value (.int .i64 27)) W := by
  unfold execOp
  rw [h]
  simp [Act.eval, hs, go_sem]
theorem run_mv {o : Oper} {a : Act} {W : World} {v : Value} (h : o.op = .move (.const v)) : (execOp a.eval o).run Tryz.prog W = .ok (.value v) W := by
  unfold execOp
  rw [h]
  rfl
/-- What an operation is. -/
def IsOp (ops : Array Oper) (i : Nat) (op : Op) : Prop := ∃ o, ops[i]? = some o ∧ o.guard = none ∧ o.dst = some (53 + i) ∧ o.op = op
theorem IsOp.v {ops : Array Oper} {i : Nat} {op : Op} {a : Act} {W W' : World} {v : Value} (h : IsOp ops i op) (hr : ∀ o : Oper, o.op = op → (execOp a.eval o).run Tryz.prog W = .ok (.value v) W') : VAt ops i a W v W' := by
  obtain ⟨o, h1, h2, h3, h4⟩ := h
  exact ⟨o, h1, h2, h3, hr o h4⟩
theorem IsOp.c {ops : Array Oper} {i : Nat} {op : Op} {a : Act} {W : World} {f : FuncId} {args : Array Value} (h : IsOp ops i op) (hr : ∀ o : Oper, o.op = op → (execOp a.eval o).run Tryz.prog W = .ok (.enter f args) W) : CAt ops i a W f args := by
  obtain ⟨o, h1, h2, h3, h4⟩ := h
  exact ⟨o, h1, h2, h3, hr o h4⟩
theorem sz64 : z64.size = 128 := by rw [bs_size, repsL_length]; rfl
theorem so128 : o128.size = 128 := by rw [bs_size, repsL_length]; rfl
/-- The region's operations. -/
structure NmOps (ops : Array Oper) : Prop where
  sz : ops.size = 51
  od : orderB ops = true
  f0 : IsOp ops 0 (.build 38 #[(0, .const (.string (⟨#[]⟩ : ByteArray))), (1, .const (.int .i64 0)), (2, .const (.int .i64 4))])
  f1 : IsOp ops 1 (.build 38 #[(0, .const (.string (⟨#[32, 10]⟩ : ByteArray))), (1, .const (.int .i64 2)), (2, .const (.int .i64 4))])
  f2 : IsOp ops 2 (.build 38 #[(0, .const (.string (⟨#[49, 48, 57, 57, 53, 49, 49, 54, 50, 55, 55, 55, 55]⟩ : ByteArray))), (1, .const (.int .i64 0)), (2, .const (.int .i64 1))])
  f3 : IsOp ops 3 (.build 38 #[(0, .const (.string (⟨#[91, 45, 49, 48, 57, 57, 53, 49, 49, 54, 50, 55, 55, 55, 55, 32, 120]⟩ : ByteArray))), (1, .const (.int .i64 1)), (2, .const (.int .i64 1))])
  f4 : IsOp ops 4 (.build 38 #[(0, .const (.string (⟨#[49, 32, 120]⟩ : ByteArray))), (1, .const (.int .i64 2)), (2, .const (.int .i64 6))])
  f5 : IsOp ops 5 (.build 38 #[(0, .const (.string (⟨#[49, 32, 48, 48, 55]⟩ : ByteArray))), (1, .const (.int .i64 2)), (2, .const (.int .i64 3))])
  f6 : IsOp ops 6 (.build 38 #[(0, .const (.string (⟨#[49, 32, 88]⟩ : ByteArray))), (1, .const (.int .i64 2)), (2, .const (.int .i64 3))])
  f7 : IsOp ops 7 (.build 38 #[(0, .const (.string (⟨#[40]⟩ : ByteArray))), (1, .const (.int .i64 0)), (2, .const (.int .i64 3))])
  f8 : IsOp ops 8 (.build 38 #[(0, .const (.string (⟨#[62]⟩ : ByteArray))), (1, .const (.int .i64 0)), (2, .const (.int .i64 3))])
  f9 : IsOp ops 9 (.build 38 #[(0, .const (.string (⟨#[91, 49, 32, 62]⟩ : ByteArray))), (1, .const (.int .i64 3)), (2, .const (.int .i64 3))])
  f10 : IsOp ops 10 (.build 38 #[(0, .const (.string (⟨#[60, 91, 49, 62, 93]⟩ : ByteArray))), (1, .const (.int .i64 3)), (2, .const (.int .i64 3))])
  f11 : IsOp ops 11 (.build 38 #[(0, .const (.string (⟨#[91, 40, 49, 41, 93]⟩ : ByteArray))), (1, .const (.int .i64 1)), (2, .const (.int .i64 3))])
  f12 : IsOp ops 12 (.build 38 #[(0, .const (.string (⟨#[91, 41]⟩ : ByteArray))), (1, .const (.int .i64 1)), (2, .const (.int .i64 3))])
  f13 : IsOp ops 13 (.build 38 #[(0, .const (.string (⟨#[35, 48, 49]⟩ : ByteArray))), (1, .const (.int .i64 0)), (2, .const (.int .i64 3))])
  f14 : IsOp ops 14 (.build 38 #[(0, .const (.string (⟨#[91, 116, 114, 117, 101]⟩ : ByteArray))), (1, .const (.int .i64 5)), (2, .const (.int .i64 4))])
  f15 : IsOp ops 15 (.build 38 #[(0, .const (.string (⟨#[91, 116, 114, 117, 101, 32]⟩ : ByteArray))), (1, .const (.int .i64 6)), (2, .const (.int .i64 4))])
  f16 : IsOp ops 16 (.build 38 #[(0, .const (.string (⟨#[91, 48, 48, 55]⟩ : ByteArray))), (1, .const (.int .i64 1)), (2, .const (.int .i64 3))])
  f17 : IsOp ops 17 (.build 38 #[(0, .const (.string (⟨#[57, 57, 57, 57, 57, 57, 57, 57, 57, 57, 57, 57, 57, 57, 57, 57, 57, 57, 57, 57]⟩ : ByteArray))), (1, .const (.int .i64 0)), (2, .const (.int .i64 5))])
  f18 : IsOp ops 18 (.call { callee := .value (.func 21), args := #[.const (.string (⟨#[48, 32]⟩ : ByteArray)), .const (.int .i64 64)], argTypes := #[9, 3] })
  f19 : IsOp ops 19 (.binOp .add 9 (.const (.string (⟨#[91]⟩ : ByteArray))) (.tmp 71) 9)
  f20 : IsOp ops 20 (.binOp .add 9 (.tmp 72) (.const (.string (⟨#[93]⟩ : ByteArray))) 9)
  f21 : IsOp ops 21 (.build 38 #[(0, .tmp 73), (1, .const (.int .i64 0)), (2, .const (.int .i64 0))])
  f22 : IsOp ops 22 (.call { callee := .value (.func 21), args := #[.const (.string (⟨#[48, 32]⟩ : ByteArray)), .const (.int .i64 64)], argTypes := #[9, 3] })
  f23 : IsOp ops 23 (.binOp .add 9 (.const (.string (⟨#[91]⟩ : ByteArray))) (.tmp 75) 9)
  f24 : IsOp ops 24 (.binOp .add 9 (.tmp 76) (.const (.string (⟨#[55, 93]⟩ : ByteArray))) 9)
  f25 : IsOp ops 25 (.build 38 #[(0, .tmp 77), (1, .const (.int .i64 129)), (2, .const (.int .i64 5))])
  f26 : IsOp ops 26 (.call { callee := .value (.func 21), args := #[.const (.string (⟨#[48, 32]⟩ : ByteArray)), .const (.int .i64 64)], argTypes := #[9, 3] })
  f27 : IsOp ops 27 (.binOp .add 9 (.const (.string (⟨#[91]⟩ : ByteArray))) (.tmp 79) 9)
  f28 : IsOp ops 28 (.binOp .add 9 (.tmp 80) (.const (.string (⟨#[120, 93]⟩ : ByteArray))) 9)
  f29 : IsOp ops 29 (.build 38 #[(0, .tmp 81), (1, .const (.int .i64 129)), (2, .const (.int .i64 3))])
  f30 : IsOp ops 30 (.call { callee := .value (.func 21), args := #[.const (.string (⟨#[91]⟩ : ByteArray)), .const (.int .i64 128)], argTypes := #[9, 3] })
  f31 : IsOp ops 31 (.call { callee := .value (.func 21), args := #[.const (.string (⟨#[93]⟩ : ByteArray)), .const (.int .i64 128)], argTypes := #[9, 3] })
  f32 : IsOp ops 32 (.binOp .add 9 (.tmp 83) (.tmp 84) 9)
  f33 : IsOp ops 33 (.build 38 #[(0, .tmp 85), (1, .const (.int .i64 0)), (2, .const (.int .i64 0))])
  f34 : IsOp ops 34 (.call { callee := .value (.func 21), args := #[.const (.string (⟨#[91]⟩ : ByteArray)), .const (.int .i64 128)], argTypes := #[9, 3] })
  f35 : IsOp ops 35 (.binOp .add 9 (.tmp 87) (.const (.string (⟨#[49]⟩ : ByteArray))) 9)
  f36 : IsOp ops 36 (.build 38 #[(0, .tmp 88), (1, .const (.int .i64 128)), (2, .const (.int .i64 9))])
  f37 : IsOp ops 37 (.call { callee := .value (.func 21), args := #[.const (.string (⟨#[60]⟩ : ByteArray)), .const (.int .i64 129)], argTypes := #[9, 3] })
  f38 : IsOp ops 38 (.build 38 #[(0, .tmp 90), (1, .const (.int .i64 128)), (2, .const (.int .i64 9))])
  f39 : IsOp ops 39 (.call { callee := .value (.func 21), args := #[.const (.string (⟨#[91]⟩ : ByteArray)), .const (.int .i64 128)], argTypes := #[9, 3] })
  f40 : IsOp ops 40 (.binOp .add 9 (.tmp 92) (.const (.string (⟨#[57, 57, 57, 57, 57, 57, 57, 57, 57, 57, 57, 57, 57]⟩ : ByteArray))) 9)
  f41 : IsOp ops 41 (.build 38 #[(0, .tmp 93), (1, .const (.int .i64 128)), (2, .const (.int .i64 9))])
  f42 : IsOp ops 42 (.makeSlice 40 (.const (.int .i64 65537)) (.const (.int .i64 65537)))
  f45 : IsOp ops 45 (.makeSlice 40 (.const (.int .i64 65536)) (.const (.int .i64 65536)))
  f43 : IsOp ops 43 (.convert 40 9 (.tmp 95))
  f46 : IsOp ops 46 (.convert 40 9 (.tmp 98))
  f44 : IsOp ops 44 (.build 38 #[(0, .tmp 96), (1, .const (.int .i64 0)), (2, .const (.int .i64 5))])
  f47 : IsOp ops 47 (.build 38 #[(0, .tmp 99), (1, .const (.int .i64 0)), (2, .const (.int .i64 3))])
  f48 : IsOp ops 48 (.buildSlice 41 27 #[(0, .tmp 53), (1, .tmp 54), (2, .tmp 55), (3, .tmp 56), (4, .tmp 57), (5, .tmp 58), (6, .tmp 59), (7, .tmp 60), (8, .tmp 61), (9, .tmp 62), (10, .tmp 63), (11, .tmp 64), (12, .tmp 65), (13, .tmp 66), (14, .tmp 67), (15, .tmp 68), (16, .tmp 69), (17, .tmp 70), (18, .tmp 74), (19, .tmp 78), (20, .tmp 82), (21, .tmp 86), (22, .tmp 89), (23, .tmp 91), (24, .tmp 94), (25, .tmp 97), (26, .tmp 100)])
  f49 : IsOp ops 49 (.call { callee := .builtin .len, args := #[.tmp 101], argTypes := #[41] })
  f50 : IsOp ops 50 (.move (.const (.int .i64 0)))
  a19_18 : aftB ops 19 18 = true
  a20_19 : aftB ops 20 19 = true
  a21_20 : aftB ops 21 20 = true
  a23_22 : aftB ops 23 22 = true
  a24_23 : aftB ops 24 23 = true
  a25_24 : aftB ops 25 24 = true
  a27_26 : aftB ops 27 26 = true
  a28_27 : aftB ops 28 27 = true
  a29_28 : aftB ops 29 28 = true
  a32_30 : aftB ops 32 30 = true
  a32_31 : aftB ops 32 31 = true
  a33_32 : aftB ops 33 32 = true
  a35_34 : aftB ops 35 34 = true
  a36_35 : aftB ops 36 35 = true
  a38_37 : aftB ops 38 37 = true
  a40_39 : aftB ops 40 39 = true
  a41_40 : aftB ops 41 40 = true
  a43_42 : aftB ops 43 42 = true
  a44_43 : aftB ops 44 43 = true
  a46_45 : aftB ops 46 45 = true
  a47_46 : aftB ops 47 46 = true
  a49_48 : aftB ops 49 48 = true
  a48 : ([0, 1, 2, 3, 4, 5, 6, 7, 8, 9, 10, 11, 12, 13, 14, 15, 16, 17, 21, 25, 29, 33, 36, 38, 41, 44, 47].all fun j => aftB ops 48 j) = true
set_option maxRecDepth 100000 in
theorem run_bs {o : Oper} {a : Act} {W W' : World} {v : Value} (h : o.op = .buildSlice 41 27 #[(0, .tmp 53), (1, .tmp 54), (2, .tmp 55), (3, .tmp 56), (4, .tmp 57), (5, .tmp 58), (6, .tmp 59), (7, .tmp 60), (8, .tmp 61), (9, .tmp 62), (10, .tmp 63), (11, .tmp 64), (12, .tmp 65), (13, .tmp 66), (14, .tmp 67), (15, .tmp 68), (16, .tmp 69), (17, .tmp 70), (18, .tmp 74), (19, .tmp 78), (20, .tmp 82), (21, .tmp 86), (22, .tmp 89), (23, .tmp 91), (24, .tmp 94), (25, .tmp 97), (26, .tmp 100)]) (hr : (Instr.buildSlice 41 27 #[(0, a.tmps.getD 53 undef), (1, a.tmps.getD 54 undef), (2, a.tmps.getD 55 undef), (3, a.tmps.getD 56 undef), (4, a.tmps.getD 57 undef), (5, a.tmps.getD 58 undef), (6, a.tmps.getD 59 undef), (7, a.tmps.getD 60 undef), (8, a.tmps.getD 61 undef), (9, a.tmps.getD 62 undef), (10, a.tmps.getD 63 undef), (11, a.tmps.getD 64 undef), (12, a.tmps.getD 65 undef), (13, a.tmps.getD 66 undef), (14, a.tmps.getD 67 undef), (15, a.tmps.getD 68 undef), (16, a.tmps.getD 69 undef), (17, a.tmps.getD 70 undef), (18, a.tmps.getD 74 undef), (19, a.tmps.getD 78 undef), (20, a.tmps.getD 82 undef), (21, a.tmps.getD 86 undef), (22, a.tmps.getD 89 undef), (23, a.tmps.getD 91 undef), (24, a.tmps.getD 94 undef), (25, a.tmps.getD 97 undef), (26, a.tmps.getD 100 undef)]).run Tryz.prog W = .ok v W') : (execOp a.eval o).run Tryz.prog W = .ok (.value v) W' := by
  unfold execOp
  simp only [h, Sem.run_bind, List.map_toArray, List.map_cons, List.map_nil, ev_t]
  rw [hr]
  rfl
theorem build_run (W : World) : (Instr.buildSlice 41 27 #[(0, nmRow 0), (1, nmRow 1), (2, nmRow 2), (3, nmRow 3), (4, nmRow 4), (5, nmRow 5), (6, nmRow 6), (7, nmRow 7), (8, nmRow 8), (9, nmRow 9), (10, nmRow 10), (11, nmRow 11), (12, nmRow 12), (13, nmRow 13), (14, nmRow 14), (15, nmRow 15), (16, nmRow 16), (17, nmRow 17), (18, nmRow 18), (19, nmRow 19), (20, nmRow 20), (21, nmRow 21), (22, nmRow 22), (23, nmRow 23), (24, nmRow 24), (25, nmRow 25), (26, nmRow 26)]).run Tryz.prog W = .ok (.slice (some ⟨W.heap.size, 0, none⟩) 27 27) (W.alloc (.cells nmCells 38)) := by
  obtain ⟨i0, hi, hz0, hz1, hz2⟩ := info_parts (P := Tryz.prog) (e := 38) (z := .agg #[.string ⟨#[]⟩, .int .i64 0, .int .i64 0]) (size := 3) (bytes := 32) (by kernel_rfl)
  refine run_buildSlice W _ _ 27 _ nmCells i0 _ Tryz.underlying41 hi hz0 (by rw [hz1]; decide) (by rw [hz1]; decide) ?_
  rw [hz1]
  kernel_rfl
set_option maxHeartbeats 4000000 in
theorem nm_step {ops : Array Oper} {Q : Exit → Act → World → Prop} (H : NmOps ops) {w : World} : ∀ (l : Array Bool) (a : Act) (W : World) (i : Nat), NmI w l a W → i ∈ Region.ready .any ops l → wpOp Tryz.prog ops Q i (NmI w (l.setIfInBounds i true)) a W := by
  intro l a W i hI hr
  have hi : i < 51 := by have := (ready_at hr).1; rw [H.sz] at this; exact this
  match i, hi, hr with
  | 0, hi, hr => exact step_v hI hi (H.f0.v fun o h => run_row h rfl) rfl (by decide) (by decide) (by decide)
  | 1, hi, hr => exact step_v hI hi (H.f1.v fun o h => run_row h rfl) rfl (by decide) (by decide) (by decide)
  | 2, hi, hr => exact step_v hI hi (H.f2.v fun o h => run_row h rfl) rfl (by decide) (by decide) (by decide)
  | 3, hi, hr => exact step_v hI hi (H.f3.v fun o h => run_row h rfl) rfl (by decide) (by decide) (by decide)
  | 4, hi, hr => exact step_v hI hi (H.f4.v fun o h => run_row h rfl) rfl (by decide) (by decide) (by decide)
  | 5, hi, hr => exact step_v hI hi (H.f5.v fun o h => run_row h rfl) rfl (by decide) (by decide) (by decide)
  | 6, hi, hr => exact step_v hI hi (H.f6.v fun o h => run_row h rfl) rfl (by decide) (by decide) (by decide)
  | 7, hi, hr => exact step_v hI hi (H.f7.v fun o h => run_row h rfl) rfl (by decide) (by decide) (by decide)
  | 8, hi, hr => exact step_v hI hi (H.f8.v fun o h => run_row h rfl) rfl (by decide) (by decide) (by decide)
  | 9, hi, hr => exact step_v hI hi (H.f9.v fun o h => run_row h rfl) rfl (by decide) (by decide) (by decide)
  | 10, hi, hr => exact step_v hI hi (H.f10.v fun o h => run_row h rfl) rfl (by decide) (by decide) (by decide)
  | 11, hi, hr => exact step_v hI hi (H.f11.v fun o h => run_row h rfl) rfl (by decide) (by decide) (by decide)
  | 12, hi, hr => exact step_v hI hi (H.f12.v fun o h => run_row h rfl) rfl (by decide) (by decide) (by decide)
  | 13, hi, hr => exact step_v hI hi (H.f13.v fun o h => run_row h rfl) rfl (by decide) (by decide) (by decide)
  | 14, hi, hr => exact step_v hI hi (H.f14.v fun o h => run_row h rfl) rfl (by decide) (by decide) (by decide)
  | 15, hi, hr => exact step_v hI hi (H.f15.v fun o h => run_row h rfl) rfl (by decide) (by decide) (by decide)
  | 16, hi, hr => exact step_v hI hi (H.f16.v fun o h => run_row h rfl) rfl (by decide) (by decide) (by decide)
  | 17, hi, hr => exact step_v hI hi (H.f17.v fun o h => run_row h rfl) rfl (by decide) (by decide) (by decide)
  | 18, hi, hr => exact step_t hI hi (H.f18.c fun o h => run_times h) (by decide) (by decide) rfl (by decide) (by decide) (by decide)
  | 19, hi, hr => exact step_v hI hi (H.f19.v fun o h => run_add_c h (slot_of hI (j := 18) (by decide) (aft_of H.a19_18 hr) rfl) (by decide) (by rw [sz64]; decide)) rfl (by decide) (by decide) (by decide)
  | 20, hi, hr => exact step_v hI hi (H.f20.v fun o h => run_add_t h (slot_of hI (j := 19) (by decide) (aft_of H.a20_19 hr) rfl) (by decide) (by rw [ByteArray.size_append, sz64]; decide)) rfl (by decide) (by decide) (by decide)
  | 21, hi, hr => exact step_v hI hi (H.f21.v fun o h => run_row h (slot_of hI (j := 20) (by decide) (aft_of H.a21_20 hr) rfl)) rfl (by decide) (by decide) (by decide)
  | 22, hi, hr => exact step_t hI hi (H.f22.c fun o h => run_times h) (by decide) (by decide) rfl (by decide) (by decide) (by decide)
  | 23, hi, hr => exact step_v hI hi (H.f23.v fun o h => run_add_c h (slot_of hI (j := 22) (by decide) (aft_of H.a23_22 hr) rfl) (by decide) (by rw [sz64]; decide)) rfl (by decide) (by decide) (by decide)
  | 24, hi, hr => exact step_v hI hi (H.f24.v fun o h => run_add_t h (slot_of hI (j := 23) (by decide) (aft_of H.a24_23 hr) rfl) (by decide) (by rw [ByteArray.size_append, sz64]; decide)) rfl (by decide) (by decide) (by decide)
  | 25, hi, hr => exact step_v hI hi (H.f25.v fun o h => run_row h (slot_of hI (j := 24) (by decide) (aft_of H.a25_24 hr) rfl)) rfl (by decide) (by decide) (by decide)
  | 26, hi, hr => exact step_t hI hi (H.f26.c fun o h => run_times h) (by decide) (by decide) rfl (by decide) (by decide) (by decide)
  | 27, hi, hr => exact step_v hI hi (H.f27.v fun o h => run_add_c h (slot_of hI (j := 26) (by decide) (aft_of H.a27_26 hr) rfl) (by decide) (by rw [sz64]; decide)) rfl (by decide) (by decide) (by decide)
  | 28, hi, hr => exact step_v hI hi (H.f28.v fun o h => run_add_t h (slot_of hI (j := 27) (by decide) (aft_of H.a28_27 hr) rfl) (by decide) (by rw [ByteArray.size_append, sz64]; decide)) rfl (by decide) (by decide) (by decide)
  | 29, hi, hr => exact step_v hI hi (H.f29.v fun o h => run_row h (slot_of hI (j := 28) (by decide) (aft_of H.a29_28 hr) rfl)) rfl (by decide) (by decide) (by decide)
  | 30, hi, hr => exact step_t hI hi (H.f30.c fun o h => run_times h) (by decide) (by decide) rfl (by decide) (by decide) (by decide)
  | 31, hi, hr => exact step_t hI hi (H.f31.c fun o h => run_times h) (by decide) (by decide) rfl (by decide) (by decide) (by decide)
  | 32, hi, hr => exact step_v hI hi (H.f32.v fun o h => run_add_tt h (slot_of hI (j := 30) (by decide) (aft_of H.a32_30 hr) rfl) (slot_of hI (j := 31) (by decide) (aft_of H.a32_31 hr) rfl) (by rw [bs_size, repsL_length]; decide) (by rw [so128]; decide)) rfl (by decide) (by decide) (by decide)
  | 33, hi, hr => exact step_v hI hi (H.f33.v fun o h => run_row h (slot_of hI (j := 32) (by decide) (aft_of H.a33_32 hr) rfl)) rfl (by decide) (by decide) (by decide)
  | 34, hi, hr => exact step_t hI hi (H.f34.c fun o h => run_times h) (by decide) (by decide) rfl (by decide) (by decide) (by decide)
  | 35, hi, hr => exact step_v hI hi (H.f35.v fun o h => run_add_t h (slot_of hI (j := 34) (by decide) (aft_of H.a35_34 hr) rfl) (by decide) (by rw [so128]; decide)) rfl (by decide) (by decide) (by decide)
  | 36, hi, hr => exact step_v hI hi (H.f36.v fun o h => run_row h (slot_of hI (j := 35) (by decide) (aft_of H.a36_35 hr) rfl)) rfl (by decide) (by decide) (by decide)
  | 37, hi, hr => exact step_t hI hi (H.f37.c fun o h => run_times h) (by decide) (by decide) rfl (by decide) (by decide) (by decide)
  | 38, hi, hr => exact step_v hI hi (H.f38.v fun o h => run_row h (slot_of hI (j := 37) (by decide) (aft_of H.a38_37 hr) rfl)) rfl (by decide) (by decide) (by decide)
  | 39, hi, hr => exact step_t hI hi (H.f39.c fun o h => run_times h) (by decide) (by decide) rfl (by decide) (by decide) (by decide)
  | 40, hi, hr => exact step_v hI hi (H.f40.v fun o h => run_add_t h (slot_of hI (j := 39) (by decide) (aft_of H.a40_39 hr) rfl) (by decide) (by rw [so128]; decide)) rfl (by decide) (by decide) (by decide)
  | 41, hi, hr => exact step_v hI hi (H.f41.v fun o h => run_row h (slot_of hI (j := 40) (by decide) (aft_of H.a41_40 hr) rfl)) rfl (by decide) (by decide) (by decide)
  | 42, hi, hr =>
    obtain ⟨o, ho, hg, hd, hx⟩ := H.f42.v (a := a) (W := W) fun o h => run_mk h (made_run 65537 (by decide) W)
    refine op_value ho hg hx ?_
    rw [hd]
    exact hI.step hi ((Below.refl _ _).alloc (Nat.le_refl _) _) ⟨fun v hv => (by cases hv), fun _ => ⟨_, put_at _ _ _ (by have := hI.tz; omega), Blk.new _ _ _⟩, fun e => absurd e (by decide), fun e => absurd e (by decide)⟩
  | 43, hi, hr =>
    obtain ⟨g, h1, h2⟩ := (hI.v 42 (by decide) (aft_of H.a43_42 hr)).m42 rfl
    exact step_v hI hi (H.f43.v fun o h => run_cv h h1 (conv_run 65537 g W h2)) rfl (by decide) (by decide) (by decide)
  | 44, hi, hr => exact step_v hI hi (H.f44.v fun o h => run_row h (slot_of hI (j := 43) (by decide) (aft_of H.a44_43 hr) rfl)) rfl (by decide) (by decide) (by decide)
  | 45, hi, hr =>
    obtain ⟨o, ho, hg, hd, hx⟩ := H.f45.v (a := a) (W := W) fun o h => run_mk h (made_run 65536 (by decide) W)
    refine op_value ho hg hx ?_
    rw [hd]
    exact hI.step hi ((Below.refl _ _).alloc (Nat.le_refl _) _) ⟨fun v hv => (by cases hv), fun e => absurd e (by decide), fun _ => ⟨_, put_at _ _ _ (by have := hI.tz; omega), Blk.new _ _ _⟩, fun e => absurd e (by decide)⟩
  | 46, hi, hr =>
    obtain ⟨g, h1, h2⟩ := (hI.v 45 (by decide) (aft_of H.a46_45 hr)).m45 rfl
    exact step_v hI hi (H.f46.v fun o h => run_cv h h1 (conv_run 65536 g W h2)) rfl (by decide) (by decide) (by decide)
  | 47, hi, hr => exact step_v hI hi (H.f47.v fun o h => run_row h (slot_of hI (j := 46) (by decide) (aft_of H.a47_46 hr) rfl)) rfl (by decide) (by decide) (by decide)
  | 48, hi, hr =>
    have hA := H.a48
    rw [List.all_eq_true] at hA
    have q0 : a.tmps.getD 53 undef = nmRow 0 := slot_of hI (j := 0) (by decide) (aft_of (hA 0 (by decide)) hr) rfl
    have q1 : a.tmps.getD 54 undef = nmRow 1 := slot_of hI (j := 1) (by decide) (aft_of (hA 1 (by decide)) hr) rfl
    have q2 : a.tmps.getD 55 undef = nmRow 2 := slot_of hI (j := 2) (by decide) (aft_of (hA 2 (by decide)) hr) rfl
    have q3 : a.tmps.getD 56 undef = nmRow 3 := slot_of hI (j := 3) (by decide) (aft_of (hA 3 (by decide)) hr) rfl
    have q4 : a.tmps.getD 57 undef = nmRow 4 := slot_of hI (j := 4) (by decide) (aft_of (hA 4 (by decide)) hr) rfl
    have q5 : a.tmps.getD 58 undef = nmRow 5 := slot_of hI (j := 5) (by decide) (aft_of (hA 5 (by decide)) hr) rfl
    have q6 : a.tmps.getD 59 undef = nmRow 6 := slot_of hI (j := 6) (by decide) (aft_of (hA 6 (by decide)) hr) rfl
    have q7 : a.tmps.getD 60 undef = nmRow 7 := slot_of hI (j := 7) (by decide) (aft_of (hA 7 (by decide)) hr) rfl
    have q8 : a.tmps.getD 61 undef = nmRow 8 := slot_of hI (j := 8) (by decide) (aft_of (hA 8 (by decide)) hr) rfl
    have q9 : a.tmps.getD 62 undef = nmRow 9 := slot_of hI (j := 9) (by decide) (aft_of (hA 9 (by decide)) hr) rfl
    have q10 : a.tmps.getD 63 undef = nmRow 10 := slot_of hI (j := 10) (by decide) (aft_of (hA 10 (by decide)) hr) rfl
    have q11 : a.tmps.getD 64 undef = nmRow 11 := slot_of hI (j := 11) (by decide) (aft_of (hA 11 (by decide)) hr) rfl
    have q12 : a.tmps.getD 65 undef = nmRow 12 := slot_of hI (j := 12) (by decide) (aft_of (hA 12 (by decide)) hr) rfl
    have q13 : a.tmps.getD 66 undef = nmRow 13 := slot_of hI (j := 13) (by decide) (aft_of (hA 13 (by decide)) hr) rfl
    have q14 : a.tmps.getD 67 undef = nmRow 14 := slot_of hI (j := 14) (by decide) (aft_of (hA 14 (by decide)) hr) rfl
    have q15 : a.tmps.getD 68 undef = nmRow 15 := slot_of hI (j := 15) (by decide) (aft_of (hA 15 (by decide)) hr) rfl
    have q16 : a.tmps.getD 69 undef = nmRow 16 := slot_of hI (j := 16) (by decide) (aft_of (hA 16 (by decide)) hr) rfl
    have q17 : a.tmps.getD 70 undef = nmRow 17 := slot_of hI (j := 17) (by decide) (aft_of (hA 17 (by decide)) hr) rfl
    have q18 : a.tmps.getD 74 undef = nmRow 18 := slot_of hI (j := 21) (by decide) (aft_of (hA 21 (by decide)) hr) rfl
    have q19 : a.tmps.getD 78 undef = nmRow 19 := slot_of hI (j := 25) (by decide) (aft_of (hA 25 (by decide)) hr) rfl
    have q20 : a.tmps.getD 82 undef = nmRow 20 := slot_of hI (j := 29) (by decide) (aft_of (hA 29 (by decide)) hr) rfl
    have q21 : a.tmps.getD 86 undef = nmRow 21 := slot_of hI (j := 33) (by decide) (aft_of (hA 33 (by decide)) hr) rfl
    have q22 : a.tmps.getD 89 undef = nmRow 22 := slot_of hI (j := 36) (by decide) (aft_of (hA 36 (by decide)) hr) rfl
    have q23 : a.tmps.getD 91 undef = nmRow 23 := slot_of hI (j := 38) (by decide) (aft_of (hA 38 (by decide)) hr) rfl
    have q24 : a.tmps.getD 94 undef = nmRow 24 := slot_of hI (j := 41) (by decide) (aft_of (hA 41 (by decide)) hr) rfl
    have q25 : a.tmps.getD 97 undef = nmRow 25 := slot_of hI (j := 44) (by decide) (aft_of (hA 44 (by decide)) hr) rfl
    have q26 : a.tmps.getD 100 undef = nmRow 26 := slot_of hI (j := 47) (by decide) (aft_of (hA 47 (by decide)) hr) rfl
    have hbr := build_run W
    rw [← q0, ← q1, ← q2, ← q3, ← q4, ← q5, ← q6, ← q7, ← q8, ← q9, ← q10, ← q11, ← q12, ← q13, ← q14, ← q15, ← q16, ← q17, ← q18, ← q19, ← q20, ← q21, ← q22, ← q23, ← q24, ← q25, ← q26] at hbr
    obtain ⟨o, ho, hg, hd, hx⟩ := H.f48.v (a := a) (W := W) fun o h => run_bs h hbr
    refine op_value ho hg hx ?_
    rw [hd]
    exact hI.step hi ((Below.refl _ _).alloc (Nat.le_refl _) _) ⟨fun v hv => (by cases hv), fun e => absurd e (by decide), fun e => absurd e (by decide), fun _ => ⟨_, put_at _ _ _ (by have := hI.tz; omega), Blk.new _ _ _⟩⟩
  | 49, hi, hr =>
    obtain ⟨g, h1, h2⟩ := (hI.v 48 (by decide) (aft_of H.a49_48 hr)).m48 rfl
    exact step_v hI hi (H.f49.v fun o h => run_len h h1) rfl (by decide) (by decide) (by decide)
  | 50, hi, hr => exact step_v hI hi (H.f50.v fun o h => run_mv h) rfl (by decide) (by decide) (by decide)
  | i + 51, hi, hr => exact absurd hi (by omega)
theorem nm_region {ops : Array Oper} {Q : Exit → Act → World → Prop} (H : NmOps ops) {a : Act} {w W : World} (ha : a.tmps.size = 280) (hd : a.defers = []) (he : Env W) (hb : Below w.heap.size w W)
    (hK : ∀ (a' : Act) (W' : World) (g : Nat), a'.tmps.size = 280 → a'.defers = [] → a'.tmps.getD 101 undef = .slice (some ⟨g, 0, none⟩) 27 27 → a'.tmps.getD 102 undef = .int .i64 27 → a'.tmps.getD 103 undef = .int .i64 0 → Blk W' g 38 nmCells → Env W' → Below w.heap.size w W' → Q .normal a' W') :
    wpAny Tryz.prog .any ops Q ops.size (Array.replicate ops.size false) a W := by
  refine wpAny_inv (NmI w) (fun l a' W' hI hr => ?_) (nm_step H) _ _ _ _ (by simp) (openN_new _ _) ?_
  · have hall := all_listed H.od (by rw [hI.ls, H.sz]) hr
    rw [H.sz] at hall
    obtain ⟨g, h1, h2⟩ := (hI.v 48 (by decide) (hall 48 (by decide))).m48 rfl
    exact hK a' W' g hI.tz hI.df h1 (slot_of hI (j := 49) (by decide) (hall 49 (by decide)) rfl) (slot_of hI (j := 50) (by decide) (hall 50 (by decide)) rfl) h2 hI.e hI.b
  · refine ⟨by rw [Array.size_replicate, H.sz], ha, hd, he, hb, fun i hi hl => ?_⟩
    rw [H.sz, Array.getD_eq_getD_getElem?, Array.getElem?_replicate] at hl
    split at hl <;> cases hl
theorem nm_cells : ∀ k, k < 27 → nmCells[k * 3]? = some (.string (nmS k)) ∧ nmCells[k * 3 + 1]? = some (.int .i64 (nmP k)) ∧ nmCells[k * 3 + 2]? = some (.int .i64 (nmE k))
  | 0, _ => ⟨rfl, rfl, rfl⟩
  | 1, _ => ⟨rfl, rfl, rfl⟩
  | 2, _ => ⟨rfl, rfl, rfl⟩
  | 3, _ => ⟨rfl, rfl, rfl⟩
  | 4, _ => ⟨rfl, rfl, rfl⟩
  | 5, _ => ⟨rfl, rfl, rfl⟩
  | 6, _ => ⟨rfl, rfl, rfl⟩
  | 7, _ => ⟨rfl, rfl, rfl⟩
  | 8, _ => ⟨rfl, rfl, rfl⟩
  | 9, _ => ⟨rfl, rfl, rfl⟩
  | 10, _ => ⟨rfl, rfl, rfl⟩
  | 11, _ => ⟨rfl, rfl, rfl⟩
  | 12, _ => ⟨rfl, rfl, rfl⟩
  | 13, _ => ⟨rfl, rfl, rfl⟩
  | 14, _ => ⟨rfl, rfl, rfl⟩
  | 15, _ => ⟨rfl, rfl, rfl⟩
  | 16, _ => ⟨rfl, rfl, rfl⟩
  | 17, _ => ⟨rfl, rfl, rfl⟩
  | 18, _ => ⟨rfl, rfl, rfl⟩
  | 19, _ => ⟨rfl, rfl, rfl⟩
  | 20, _ => ⟨rfl, rfl, rfl⟩
  | 21, _ => ⟨rfl, rfl, rfl⟩
  | 22, _ => ⟨rfl, rfl, rfl⟩
  | 23, _ => ⟨rfl, rfl, rfl⟩
  | 24, _ => ⟨rfl, rfl, rfl⟩
  | 25, _ => ⟨rfl, rfl, rfl⟩
  | 26, _ => ⟨rfl, rfl, rfl⟩
  | i + 27, h => absurd h (by omega)
end Go.Proofs.YtbhekkkijomglaaGreatDoor
