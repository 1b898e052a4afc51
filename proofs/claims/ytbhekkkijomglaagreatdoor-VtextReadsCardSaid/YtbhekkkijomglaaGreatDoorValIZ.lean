/- Put together: ValI, ValJ, ValK. -/
import Derived.Test.YtbhekkkijomglaaGreatDoorShelf
import Derived.Test.YtbhekkkijomglaaGreatDoorRdBZ
import Derived.Test.YtbhekkkijomglaaGreatDoorValMZ
import Derived.RangeFuncNested
import Derived.RangeFuncBound
import Derived.RangeFuncCalls
import Derived.RangeFuncLeaves
import Derived.Shelf.Abstract
import Derived.Shelf.RegionOpen
import Derived.WalkKit
import Derived.OwnWalkIn
import Derived.TacticsInMore
import Derived.LoopNIn
import Derived.LoopIn
namespace Go.Proofs.YtbhekkkijomglaaGreatDoor
/-! The iterator over a value and its items, walked inside a fence. -/
section
open Go.RowKit Go.Shelf

attribute [local go_sem] Oper.semAt_some

/-- What the iterator hands on: the depth, the value, where its items stand. -/
structure It where
  d : Nat
  v : V
  A : Option Addr
  c : Nat
def encI (x : It) : Array Value := #[.int .i64 x.d, vAgg x.v x.A x.c]
def projI (x : It) : Nat × V := (x.d, x.v)
/-- All cells lie as they lay, but for two blocks. -/
structure KpC (b1 b2 : Nat) (W W' : World) : Prop where
  size : W.heap.size ≤ W'.heap.size
  cells : ∀ b cs t f, b ≠ b1 → b ≠ b2 → W.heap[b]? = some (.cells cs t f) → W'.heap[b]? = some (.cells cs t f)
theorem KpC.refl (b1 b2 : Nat) (W : World) : KpC b1 b2 W W := ⟨Nat.le_refl _, fun _ _ _ _ _ _ h => h⟩
theorem KpC.trans {b1 b2 : Nat} {A B C : World} (h : KpC b1 b2 A B) (k : KpC b1 b2 B C) : KpC b1 b2 A C := ⟨Nat.le_trans h.size k.size, fun b cs t f n1 n2 e => k.cells b cs t f n1 n2 (h.cells b cs t f n1 n2 e)⟩
theorem KpC.alloc (b1 b2 : Nat) (W : World) (o : Obj) : KpC b1 b2 W (W.alloc o) :=
  ⟨by simp, fun b cs t f _ _ h => (Below.heap_alloc W o b (Array.getElem?_eq_some_iff.1 h).1).trans h⟩
theorem KpC.blk {b1 b2 g : Nat} {t : TypeId} {cs : Array Value} {W W' : World} (h : KpC b1 b2 W W') (k : Blk W g t cs) (n1 : g ≠ b1) (n2 : g ≠ b2) : Blk W' g t cs := h.cells g cs t (0, 0) n1 n2 k
theorem KpC.vsl {b1 b2 n0 : Nat} {A : Option Addr} {l : List V} {W W' : World} (h : KpC b1 b2 W W') (n1 : n0 ≤ b1) (n2 : n0 ≤ b2) (k : Vsl W n0 A l) : Vsl W' n0 A l :=
  k.carry (Nat.le_refl _) fun p u hp hu => by
    unfold World.cell? at hu ⊢
    cases hb : W.heap[p.block]? with
    | none => rw [hb] at hu; cases hu
    | some o =>
      rw [hb] at hu
      cases o with
      | cells cs t f => rw [h.cells p.block cs t f (by omega) (by omega) hb]; exact hu
      | _ => cases hu
theorem alls_snoc (l : List V) (j d : Nat) (x : V) (h : l[j]? = some x) : V.alls (l.take (j + 1)) d = V.alls (l.take j) d ++ x.all d := by
  have key : ∀ (a : List V), V.alls (a ++ [x]) d = V.alls a d ++ x.all d := by
    intro a
    induction a with
    | nil => rw [List.nil_append, V.alls, V.alls, V.alls, List.append_nil]; rfl
    | cons y r ih => rw [List.cons_append, V.alls, V.alls, ih, List.append_assoc]
  rw [List.take_add_one, h]
  exact key _
theorem sizes_take (l : List V) (j : Nat) (x : V) (h : l[j]? = some x) : V.sizes (l.take j) + x.size ≤ V.sizes l := by
  have key : ∀ a b : List V, V.sizes (a ++ b) = V.sizes a + V.sizes b := by
    intro a b
    induction a with
    | nil => rw [List.nil_append, V.sizes]; omega
    | cons y r ih => rw [List.cons_append, V.sizes, V.sizes, ih]; omega
  have e := key (l.take j) (l.drop j)
  rw [List.take_append_drop, drop_cons h, V.sizes] at e
  omega
theorem alls_length (l : List V) (d : Nat) : (V.alls l d).length = V.sizes l := by
  induction l with
  | nil => rw [V.alls, V.sizes]; rfl
  | cons x r ih => rw [V.alls, V.sizes, List.length_append, all_length, ih]
end

/-! The walk of the iterator over a value: visit. -/
section
open Go.RowKit Go.Shelf

attribute [local go_sem] Oper.semAt_some


theorem alls_app (a b : List V) (d : Nat) : V.alls (a ++ b) d = V.alls a d ++ V.alls b d := by
  induction a with
  | nil => rw [List.nil_append, V.alls]; rfl
  | cons y r ih => rw [List.cons_append, V.alls, V.alls, ih, List.append_assoc]
theorem alls_pre (l : List V) (j d : Nat) (x : V) (h : l[j]? = some x) : V.alls (l.take j) d ++ x.all d <+: V.alls l d := by
  refine ⟨V.alls (l.drop (j + 1)) d, ?_⟩
  rw [← alls_snoc l j d x h, ← alls_app, List.take_append_drop]

theorem len_le_sizes (l : List V) : l.length ≤ V.sizes l := by
  induction l with
  | nil => exact Nat.zero_le _
  | cons x r ih =>
    have : 1 ≤ x.size := by cases x; rw [V.size]; omega
    rw [V.sizes, List.length_cons]; omega

/-- The two boxes that the iterator holds. -/
structure Vis (l By Bv b1 b2 n0 : Nat) (W : World) : Prop where
  y : Blk W By 124 #[.func (.yield l) #[] #[]]
  v : Blk W Bv 124 #[.func (.func 66) #[] #[.pointer (some ⟨By, 0, none⟩), .pointer (some ⟨Bv, 0, none⟩)]]
  ny1 : By ≠ b1
  ny2 : By ≠ b2
  nv1 : Bv ≠ b1
  nv2 : Bv ≠ b2
  n1 : n0 ≤ b1
  n2 : n0 ≤ b2
  s1 : b1 < W.heap.size
  s2 : b2 < W.heap.size
theorem Vis.kept {l By Bv b1 b2 n0 : Nat} {W W' : World} (h : Vis l By Bv b1 b2 n0 W) (k : KpC b1 b2 W W') : Vis l By Bv b1 b2 n0 W' :=
  ⟨k.blk h.y h.ny1 h.ny2, k.blk h.v h.nv1 h.nv2, h.ny1, h.ny2, h.nv1, h.nv2, h.n1, h.n2, Nat.lt_of_lt_of_le h.s1 k.size, Nat.lt_of_lt_of_le h.s2 k.size⟩

set_option maxRecDepth 100000 in
set_option maxHeartbeats 2000000 in
theorem visit_in (F : Fence) (hd : F.depth = none) (h66 : F.fn 66) (hro : F.round = none) (l By Bv b1 b2 n0 N : Nat) (J Jx : List It → World → Prop)
    (hA : ∀ pre W o, J pre W → J pre (W.alloc o))
    (hY : ∀ m pre x W, J pre W → pre.length < N → YieldAt F m Tryz.prog l (encI x) W fun e W' =>
      (e = .returned (.bool true) ∧ J (pre ++ [x]) W' ∧ KpC b1 b2 W W') ∨ (e = .returned (.bool false) ∧ Jx (pre ++ [x]) W')) :
    ∀ (v : V) (n d : Nat) (pre : List It) (A : Option Addr) (c : Nat) (W : World), Vsl W n0 A v.l → Vis l By Bv b1 b2 n0 W → J pre W → pre.length + v.size ≤ N → d + v.size ≤ 1000000 →
      CallsIn F n Tryz.prog 66 #[.int .i64 d, vAgg v A c, .pointer (some ⟨By, 0, none⟩), .pointer (some ⟨Bv, 0, none⟩)] W fun e W' =>
        (e = .returned (.bool true) ∧ (∃ ys : List It, ys.map projI = v.all d ∧ J (pre ++ ys) W') ∧ KpC b1 b2 W W') ∨ (e = .returned (.bool false) ∧ ∃ q : List It, q.map projI <+: v.all d ∧ Jx (pre ++ q) W') := by
  have hdd : ∀ k : Nat, (F.depth.isSome = true → 1 ≤ k) := fun k h => by rw [hd] at h; cases h
  intro v
  induction v using V.ind with
  | h k nn ls ih =>
    intro n d pre A c W hV hVis hJ hN hdN
    have IH := Lib.hid ih
    clear ih
    have hfirst := hY (n - 1) pre ⟨d, .mk k nn ls, A, c⟩ (W.alloc (.cells #[.int .u8 k, .int .i64 nn, .slice A ls.length c] 24)) (hA _ _ _ hJ) (by rw [V.size] at hN; omega)
    have hk0 : KpC b1 b2 W (W.alloc (.cells #[.int .u8 k, .int .i64 nn, .slice A ls.length c] 24)) := KpC.alloc _ _ _ _
    have hb0 : Blk (W.alloc (.cells #[.int .u8 k, .int .i64 nn, .slice A ls.length c] 24)) W.heap.size 24 #[.int .u8 k, .int .i64 nn, .slice A ls.length c] := Blk.new W _ _
    have g1 : W.heap.size ≠ b1 := Nat.ne_of_gt hVis.s1
    have g2 : W.heap.size ≠ b2 := Nat.ne_of_gt hVis.s2
    change Vsl W n0 A ls at hV
    rw [V.size] at hN hdN
    have hVis0 := hVis.kept hk0
    have cy := hVis0.y.cell 0
    have cb := hb0.three
    have HX := Lib.hid (And.intro hk0 (And.intro hb0 (And.intro g1 (And.intro g2 (And.intro hV (And.intro hVis0 hVis))))))
    have hfirst2 := YieldAt.mono (R' := fun e W2 => (e = .returned (.bool true) ∧ J (pre ++ [⟨d, .mk k nn ls, A, c⟩]) W2 ∧ KpC b1 b2 (W.alloc (.cells #[.int .u8 k, .int .i64 nn, .slice A ls.length c] 24)) W2 ∧ W2.cell? ⟨W.heap.size, 2, none⟩ = some (.slice A ls.length c)) ∨ (e = .returned (.bool false) ∧ Jx (pre ++ [⟨d, .mk k nn ls, A, c⟩]) W2)) hfirst
      (fun e W2 h => h.elim (fun ⟨he, hj, hk⟩ => .inl ⟨he, hj, hk, (hk.blk hb0 g1 g2).cell 2⟩) .inr)
    obtain ⟨fn, tmps, assign, body, hy, hR⟩ := hfirst2
    change (Instr.yield l #[.int .i64 d, .agg #[.int .u8 k, .int .i64 nn, .slice A ls.length c]]).run Tryz.prog _ = _ at hy
    show CallsIn F n Tryz.prog 66 #[.int .i64 d, .agg #[.int .u8 k, .int .i64 nn, .slice A ls.length c], .pointer (some ⟨By, 0, none⟩), .pointer (some ⟨Bv, 0, none⟩)] W _
    clear hk0 hb0 g1 g2 hV hVis0 hVis hY hfirst
    refine callsIn_of_wp Tryz.func66 rfl h66 ?_ hro
    simp only [Tryz.ntmps66, List.size_toArray, List.length_cons, List.length_nil, Nat.reduceAdd, Nat.reduceSub, Array.replicate_succ, Array.replicate_zero, List.push_toArray, List.append_toArray, List.nil_append, List.cons_append]
    gi_wp2_with ((try refine ⟨hdd _, ?_⟩); refine hR.mono ?_; clear hR; rintro e W2 (⟨rfl, hJ2, hk2, c2⟩ | ⟨rfl, hx2⟩))
    · clear hy cb cy
      gi_loopw [17] (fun i wr => ∃ (j : Nat) (ys : List It), j ≤ ls.length ∧ i = .int .i64 j ∧ Hid (ys.map projI = (d, V.mk k nn ls) :: V.alls (ls.take j) (d + 1)) ∧ J (pre ++ ys) wr ∧ Hid (KpC b1 b2 (W.alloc (.cells #[.int .u8 k, .int .i64 nn, .slice A ls.length c] 24)) wr)) (fun i _ => ls.length - (intOf i).toNat)
      case atStart => exact ⟨0, [⟨d, .mk k nn ls, A, c⟩], Nat.zero_le _, rfl, by rw [List.take_zero, V.alls]; exact Lib.hid rfl, hJ2, hk2⟩
      case round =>
        obtain ⟨j, ys, hj, rfl, hys, hJs, hks⟩ := hrel
        by_cases hlt : j < ls.length
        · obtain ⟨y, hyj⟩ : ∃ y, ls[j]? = some y := ⟨ls[j], List.getElem?_eq_getElem hlt⟩
          have hmem : y ∈ ls := List.mem_of_getElem? hyj
          obtain ⟨hk0, hb0, g1, g2, hV, hVis0, hVis⟩ := HX.out
          have hVr := (hk0.trans hks.out).vsl hVis.n1 hVis.n2 hV
          have hVisr := hVis0.kept hks.out
          obtain ⟨gg, oo, A1, c1, rfl, hgg, p0, p1, p2, hA1⟩ := hVr.at_ hyj
          have hk3 : KpC b1 b2 wr (wr.alloc (.cells #[.int .u8 y.k, .int .i64 y.n, .slice A1 y.l.length c1] 24)) := KpC.alloc _ _ _ _
          have hVis3 := hVisr.kept hk3
          have hsz := sizes_take ls j y hyj
          have hlen : ys.length = 1 + V.sizes (ls.take j) := by
            have := congrArg List.length hys.out
            rw [List.length_map, List.length_cons, alls_length] at this
            omega
          have hcall := IH.out y hmem (n - 1) (d + 1) (pre ++ ys) A1 c1 _ (hk3.vsl hVis.n1 hVis.n2 hA1) hVis3 (hA _ _ _ hJs) (by rw [List.length_append]; omega) (by omega)
          have e1 : ((d + 1 : Nat) : Int) = (d : Int) + 1 := by omega
          rw [e1] at hcall
          have HC : Hid (CallsIn F (n - 1) Tryz.prog 66 #[.int .i64 ((d : Int) + 1), .agg #[.int .u8 y.k, .int .i64 y.n, .slice A1 y.l.length c1], .pointer (some ⟨By, 0, none⟩), .pointer (some ⟨Bv, 0, none⟩)] (wr.alloc (.cells #[.int .u8 y.k, .int .i64 y.n, .slice A1 y.l.length c1] 24)) fun e W' =>
            (e = .returned (.bool true) ∧ (∃ zs : List It, zs.map projI = y.all (d + 1) ∧ J (pre ++ ys ++ zs) W') ∧ KpC b1 b2 (wr.alloc (.cells #[.int .u8 y.k, .int .i64 y.n, .slice A1 y.l.length c1] 24)) W') ∨ (e = .returned (.bool false) ∧ ∃ q : List It, q.map projI <+: y.all (d + 1) ∧ Jx (pre ++ ys ++ q) W')) := hcall
          have cv := hVis3.v.cell 0
          have hsn := alls_snoc ls j (d + 1) y hyj
          have hpr := alls_pre ls j (d + 1) y hyj
          have HY := Lib.hid (And.intro hk3 (And.intro hsn hpr))
          have j0 : (0 : Int) ≤ (j : Int) := by omega
          have j1 : (j : Int) < (ls.length : Int) := by omega
          have hdb : d + 1 ≤ 1000000 := by omega
          have hlz : ls.length ≤ 1000000 := by have := len_le_sizes ls; omega
          clear hcall e1 hVr hVisr hVis3 hVis0 hVis hA1 hV hb0 g1 g2 hk0 hk3 hsn hpr hsz hlen hmem hyj HX IH
          gi_wp2_with ((try refine ⟨hdd _, ?_⟩); gi_at_call 66; refine HC.out.mono ?_; clear HC; rintro e W4 (⟨rfl, ⟨zs, hz, hJz⟩, hk4⟩ | ⟨rfl, q, hq, hxq⟩))
          · go_roundw
            case rel => exact ⟨j + 1, ys ++ zs, by omega, by go_num, by rw [HY.out.2.1, List.map_append, hys.out, hz]; exact Lib.hid rfl, by rw [← List.append_assoc]; exact hJz, (hks.out.trans HY.out.1).trans hk4⟩
            case measure => simp [intOf]; omega
          · go_ret
            refine .inr ⟨rfl, ys ++ q, ?_, by rw [← List.append_assoc]; exact hxq⟩
            rw [List.map_append, hys.out, V.all, List.cons_append]
            exact (List.prefix_cons_inj _).2 (((List.prefix_append_right_inj _).2 hq).trans HY.out.2.2)
        · obtain rfl : j = ls.length := by omega
          gi_wp2_with fail
          go_ret
          refine .inl ⟨rfl, ⟨ys, ?_, hJs⟩, HX.out.1.trans hks.out⟩
          rw [hys.out, V.all, List.take_length]
    · go_ret
      exact .inr ⟨rfl, [⟨d, .mk k nn ls, A, c⟩], by rw [V.all]; exact ⟨V.alls ls (d + 1), rfl⟩, hx2⟩
end

/-! The iterator over a value: what it hands back. -/
section
open Go.RowKit Go.Shelf

attribute [local go_sem] Oper.semAt_some



section
variable {a : Addr} {m : Mode} {P : Program} {w : World}
theorem store_func (f : Fn) (x y : Array Value) : (store a (.func f x y) m).run P w = stored P w a (.func f x y) m := run_store P w a _ m rfl
end
attribute [local go_sem] store_func

theorem room_of (F : Fence) (hd : F.depth = none) (k : Nat) : F.room k := fun d h => by rw [hd] at h; cases h
/-- Where no depth is asked, its figures are all one. -/
theorem yield_depth {F : Fence} (hd : F.depth = none) {m : Nat} (m' : Nat) {P : Program} {l : Nat} {args : Array Value} {W : World} {R : Ending → World → Prop} (h : YieldAt F m P l args W R) : YieldAt F m' P l args W R := by
  obtain ⟨fn, tmps, assign, body, hy, hR⟩ := h
  exact ⟨fn, tmps, assign, body, hy, hR.1, fun c cs _ => hR.2 c cs (room_of F hd _)⟩

set_option maxRecDepth 100000 in
set_option maxHeartbeats 2000000 in
theorem all1_in (F : Fence) (hd : F.depth = none) (n : Nat) (h65 : F.fn 65) (h66 : F.fn 66) (hro : F.round = none) (l Bt b1 b2 n0 : Nat) (J Jx : List It → World → Prop)
    (hA : ∀ pre W o, J pre W → J pre (W.alloc o)) (v : V) (A : Option Addr) (c : Nat) (hsz : v.size < 1000000)
    (hY : ∀ pre x W, J pre W → pre.length < v.size → YieldAt F (n - 1) Tryz.prog l (encI x) W fun e W' =>
      (e = .returned (.bool true) ∧ J (pre ++ [x]) W' ∧ KpC b1 b2 W W') ∨ (e = .returned (.bool false) ∧ Jx (pre ++ [x]) W'))
    (W : World) (hBt : Blk W Bt 24 #[.int .u8 v.k, .int .i64 v.n, .slice A v.l.length c]) (hV : Vsl W n0 A v.l) (n1 : n0 ≤ b1) (n2 : n0 ≤ b2) (s1 : b1 < W.heap.size) (s2 : b2 < W.heap.size) (nt1 : Bt ≠ b1) (nt2 : Bt ≠ b2) (h0 : J [] W) :
    CallsIn F n Tryz.prog 65 #[.func (.yield l) #[] #[], .pointer (some ⟨Bt, 0, none⟩)] W fun e W' => (∃ v, e = .returned v) ∧
      ((∃ ys : List It, ys.map projI = v.all 1 ∧ J ys W') ∨ (∃ pre : List It, pre.map projI <+: v.all 1 ∧ Jx pre W')) := by
  have hdd : ∀ k : Nat, (F.depth.isSome = true → 1 ≤ k) := fun k h => by rw [hd] at h; cases h
  have hk1 : KpC b1 b2 W (W.alloc (.cells #[.func (.yield l) #[] #[]] 124)) := KpC.alloc _ _ _ _
  have hk2 : KpC b1 b2 (W.alloc (.cells #[.func (.yield l) #[] #[]] 124)) ((W.alloc (.cells #[.func (.yield l) #[] #[]] 124)).alloc (.cells #[.func (.func 66) #[] #[.pointer (some ⟨W.heap.size, 0, none⟩), .pointer (some ⟨W.heap.size + 1, 0, none⟩)]] 124)) := KpC.alloc _ _ _ _
  have hb1 := Blk.new W 124 #[.func (.yield l) #[] #[]]
  have hb2 := Blk.new (W.alloc (.cells #[.func (.yield l) #[] #[]] 124)) 124 #[.func (.func 66) #[] #[.pointer (some ⟨W.heap.size, 0, none⟩), .pointer (some ⟨W.heap.size + 1, 0, none⟩)]]
  rw [World.size_alloc] at hb2
  have hvis : Vis l W.heap.size (W.heap.size + 1) b1 b2 n0 ((W.alloc (.cells #[.func (.yield l) #[] #[]] 124)).alloc (.cells #[.func (.func 66) #[] #[.pointer (some ⟨W.heap.size, 0, none⟩), .pointer (some ⟨W.heap.size + 1, 0, none⟩)]] 124)) :=
    ⟨hk2.blk hb1 (by omega) (by omega), hb2, by omega, by omega, by omega, by omega, n1, n2, Nat.lt_of_lt_of_le s1 (hk1.trans hk2).size, Nat.lt_of_lt_of_le s2 (hk1.trans hk2).size⟩
  have hp := visit_in F hd h66 hro l W.heap.size (W.heap.size + 1) b1 b2 n0 v.size J Jx hA (fun m pre x W hj hl => yield_depth hd m (hY pre x W hj hl)) v (n - 1) 1 [] A c _ ((hk1.trans hk2).vsl n1 n2 hV) hvis (hA _ _ _ (hA _ _ _ h0)) (by simp) (by omega)
  have cv := hvis.v.cell 0
  have ct := (hk2.blk (hk1.blk hBt nt1 nt2) nt1 nt2).three.1
  have cn := Blk.new (W.alloc (.cells #[.func (.yield l) #[] #[]] 124)) 124 #[.nilFunc]
  rw [World.size_alloc] at cn
  have cn1 := cn.cell 0
  have cn2 := cn.frozen 0
  clear cn
  show CallsIn F n Tryz.prog 65 _ W _
  have HP : Hid (CallsIn F (n - 1) Tryz.prog 66 #[.int .i64 1, .agg #[.int .u8 v.k, .int .i64 v.n, .slice A v.l.length c], .pointer (some ⟨W.heap.size, 0, none⟩), .pointer (some ⟨W.heap.size + 1, 0, none⟩)] _ _) := hp
  clear hp hk1 hk2 hb1 hb2 hvis hY hBt
  refine callsIn_of_wp Tryz.func65 rfl h65 ?_ hro
  simp only [Tryz.ntmps65, List.size_toArray, List.length_cons, List.length_nil, Nat.reduceAdd, Nat.reduceSub, Array.replicate_succ, Array.replicate_zero, List.push_toArray, List.append_toArray, List.nil_append, List.cons_append]
  gi_wp2_with ((try refine ⟨hdd _, ?_⟩); gi_at_call 66; refine HP.out.mono ?_; clear HP; rintro e W1 (⟨rfl, ⟨ys, hys, hJ1⟩, _⟩ | ⟨rfl, q, hq, hx⟩))
  · go_end0
    exact ⟨⟨_, rfl⟩, .inl ⟨ys, hys, by simpa using hJ1⟩⟩
  · go_end0
    exact ⟨⟨_, rfl⟩, .inr ⟨q, hq, by simpa using hx⟩⟩

theorem all_in (F : Fence) (n : Nat) (h41 : F.fn 41) (hro : F.round = none) (v : V) (A : Option Addr) (c : Nat) (w : World) :
    CallsIn F n Tryz.prog 41 #[vAgg v A c] w fun e w' => e = .returned (.func (.func 65) #[] #[.pointer (some ⟨w.heap.size, 0, none⟩)]) ∧ w' = w.alloc (.cells #[.int .u8 v.k, .int .i64 v.n, .slice A v.l.length c] 24) := by
  refine callsIn_of_wp Tryz.func41 rfl h41 ?_ hro
  show Code.wpIn _ _ _ _ _ { tmps := #[.agg #[.int .u8 v.k, .int .i64 v.n, .slice A v.l.length c]] ++ _, defers := _ } _
  simp only [Tryz.ntmps41, List.size_toArray, List.length_cons, List.length_nil, Nat.reduceAdd, Nat.reduceSub, Array.replicate_succ, Array.replicate_zero, List.push_toArray, List.append_toArray, List.nil_append, List.cons_append]
  gi_wp2
  go_ret
  exact ⟨rfl, rfl⟩

/-- What val.all hands back. -/
theorem all_stops (F : Fence) (hd : F.depth = none) (n : Nat) (h65 : F.fn 65) (h66 : F.fn 66) (hro : F.round = none) (Bt b1 b2 n0 : Nat) (v : V) (A : Option Addr) (c : Nat) (hsz : v.size < 1000000) (w : World)
    (hBt : Blk w Bt 24 #[.int .u8 v.k, .int .i64 v.n, .slice A v.l.length c]) (hV : Vsl w n0 A v.l) (n1 : n0 ≤ b1) (n2 : n0 ≤ b2) (s1 : b1 < w.heap.size) (s2 : b2 < w.heap.size) (nt1 : Bt ≠ b1) (nt2 : Bt ≠ b2) :
    SeqStopsK F n Tryz.prog 65 #[.pointer (some ⟨Bt, 0, none⟩)] encI (KpC b1 b2) (fun ys => ys.map projI = v.all 1) (fun pre => pre.map projI <+: v.all 1) v.size w := fun l J Jx W hW hJ _ hY h0 =>
  all1_in F hd n h65 h66 hro l Bt b1 b2 n0 J Jx (fun pre X o h => hJ pre X _ none h (World.grownBy_alloc X o none) (fun r e => by cases e)) v A c hsz hY W (hBt.below hW hBt.lt) (hV.carry (Nat.le_refl _) fun p u hp hu => (hW.cell (Nat.lt_of_lt_of_le hp (Nat.le_trans n1 (Nat.le_of_lt s1)))).trans hu) n1 n2 (Nat.lt_of_lt_of_le s1 hW.size) (Nat.lt_of_lt_of_le s2 hW.size) nt1 nt2 h0
end
end Go.Proofs.YtbhekkkijomglaaGreatDoor
