/- The walk of the iterator over a value: visit. -/
import Derived.RangeFuncNested
import Derived.RangeFuncBound
import Derived.RangeFuncCalls
import Derived.RangeFuncLeaves
import Derived.Shelf.Abstract
import Derived.Shelf.RegionOpen
import Derived.WalkKit
import Derived.OwnWalkIn
import Derived.TacticsInMore
import Derived.LoopNIn
import Derived.LoopIn
import Derived.Test.YtbhekkkijomglaaGreatDoorShelf
import Derived.Test.YtbhekkkijomglaaGreatDoorValAZ
import Derived.Test.YtbhekkkijomglaaGreatDoorValS
namespace Go.Proofs.YtbhekkkijomglaaGreatDoor
open Go.RowKit Go.Shelf

attribute [local go_sem] Oper.semAt_some


theorem alls_app (a b : List V) (d : Nat) : V.alls (a ++ b) d = V.alls a d ++ V.alls b d := by
  induction a with
  | nil => rw [List.nil_append, V.alls]; rfl
  | cons y r ih => rw [List.cons_append, V.alls, V.alls, ih, List.append_assoc]
theorem alls_pre (l : List V) (j d : Nat) (x : V) (h : l[j]? = some x) : V.alls (l.take j) d ++ x.all d <+: V.alls l d := by
  refine ⟨V.alls (l.drop (j + 1)) d, ?_⟩
  rw [← alls_snoc l j d x h, ← alls_app, List.take_append_drop]

theorem len_le_sizes (l : List V) : l.length ≤ V.sizes l := by
  induction l with
  | nil => exact Nat.zero_le _
  | cons x r ih =>
    have : 1 ≤ x.size := by cases x; rw [V.size]; omega
    rw [V.sizes, List.length_cons]; omega

/-- The two boxes that the iterator holds. -/
structure Vis (l By Bv b1 b2 n0 : Nat) (W : World) : Prop where
  y : Blk W By 124 #[.func (.yield l) #[] #[]]
  v : Blk W Bv 124 #[.func (.func 66) #[] #[.pointer (some ⟨By, 0, none⟩), .pointer (some ⟨Bv, 0, none⟩)]]
  ny1 : By ≠ b1
  ny2 : By ≠ b2
  nv1 : Bv ≠ b1
  nv2 : Bv ≠ b2
  n1 : n0 ≤ b1
  n2 : n0 ≤ b2
  s1 : b1 < W.heap.size
  s2 : b2 < W.heap.size
theorem Vis.kept {l By Bv b1 b2 n0 : Nat} {W W' : World} (h : Vis l By Bv b1 b2 n0 W) (k : KpC b1 b2 W W') : Vis l By Bv b1 b2 n0 W' :=
  ⟨k.blk h.y h.ny1 h.ny2, k.blk h.v h.nv1 h.nv2, h.ny1, h.ny2, h.nv1, h.nv2, h.n1, h.n2, Nat.lt_of_lt_of_le h.s1 k.size, Nat.lt_of_lt_of_le h.s2 k.size⟩

set_option maxRecDepth 100000 in
set_option maxHeartbeats 2000000 in
theorem visit_in (F : Fence) (hd : F.depth = none) (h66 : F.fn 66) (hro : F.round = none) (l By Bv b1 b2 n0 N : Nat) (J Jx : List It → World → Prop)
    (hA : ∀ pre W o, J pre W → J pre (W.alloc o))
    (hY : ∀ m pre x W, J pre W → pre.length < N → YieldAt F m Tryz.prog l (encI x) W fun e W' =>
      (e = .returned (.bool true) ∧ J (pre ++ [x]) W' ∧ KpC b1 b2 W W') ∨ (e = .returned (.bool false) ∧ Jx (pre ++ [x]) W')) :
    ∀ (v : V) (n d : Nat) (pre : List It) (A : Option Addr) (c : Nat) (W : World), Vsl W n0 A v.l → Vis l By Bv b1 b2 n0 W → J pre W → pre.length + v.size ≤ N → d + v.size ≤ 1000000 →
      CallsIn F n Tryz.prog 66 #[.int .i64 d, vAgg v A c, .pointer (some ⟨By, 0, none⟩), .pointer (some ⟨Bv, 0, none⟩)] W fun e W' =>
        (e = .returned (.bool true) ∧ (∃ ys : List It, ys.map projI = v.all d ∧ J (pre ++ ys) W') ∧ KpC b1 b2 W W') ∨ (e = .returned (.bool false) ∧ ∃ q : List It, q.map projI <+: v.all d ∧ Jx (pre ++ q) W') := by
  have hdd : ∀ k : Nat, (F.depth.isSome = true → 1 ≤ k) := fun k h => by rw [hd] at h; cases h
  intro v
  induction v using V.ind with
  | h k nn ls ih =>
    intro n d pre A c W hV hVis hJ hN hdN
    have IH := Lib.hid ih
    clear ih
    have hfirst := hY (n - 1) pre ⟨d, .mk k nn ls, A, c⟩ (W.alloc (.cells #[.int .u8 k, .int .i64 nn, .slice A ls.length c] 24)) (hA _ _ _ hJ) (by rw [V.size] at hN; omega)
    have hk0 : KpC b1 b2 W (W.alloc (.cells #[.int .u8 k, .int .i64 nn, .slice A ls.length c] 24)) := KpC.alloc _ _ _ _
    have hb0 : Blk (W.alloc (.cells #[.int .u8 k, .int .i64 nn, .slice A ls.length c] 24)) W.heap.size 24 #[.int .u8 k, .int .i64 nn, .slice A ls.length c] := Blk.new W _ _
    have g1 : W.heap.size ≠ b1 := Nat.ne_of_gt hVis.s1
    have g2 : W.heap.size ≠ b2 := Nat.ne_of_gt hVis.s2
    change Vsl W n0 A ls at hV
    rw [V.size] at hN hdN
    have hVis0 := hVis.kept hk0
    have cy := hVis0.y.cell 0
    have cb := hb0.three
    have HX := Lib.hid (And.intro hk0 (And.intro hb0 (And.intro g1 (And.intro g2 (And.intro hV (And.intro hVis0 hVis))))))
    have hfirst2 := YieldAt.mono (R' := fun e W2 => (e = .returned (.bool true) ∧ J (pre ++ [⟨d, .mk k nn ls, A, c⟩]) W2 ∧ KpC b1 b2 (W.alloc (.cells #[.int .u8 k, .int .i64 nn, .slice A ls.length c] 24)) W2 ∧ W2.cell? ⟨W.heap.size, 2, none⟩ = some (.slice A ls.length c)) ∨ (e = .returned (.bool false) ∧ Jx (pre ++ [⟨d, .mk k nn ls, A, c⟩]) W2)) hfirst
      (fun e W2 h => h.elim (fun ⟨he, hj, hk⟩ => .inl ⟨he, hj, hk, (hk.blk hb0 g1 g2).cell 2⟩) .inr)
    obtain ⟨fn, tmps, assign, body, hy, hR⟩ := hfirst2
    change (Instr.yield l #[.int .i64 d, .agg #[.int .u8 k, .int .i64 nn, .slice A ls.length c]]).run Tryz.prog _ = _ at hy
    show CallsIn F n Tryz.prog 66 #[.int .i64 d, .agg #[.int .u8 k, .int .i64 nn, .slice A ls.length c], .pointer (some ⟨By, 0, none⟩), .pointer (some ⟨Bv, 0, none⟩)] W _
    clear hk0 hb0 g1 g2 hV hVis0 hVis hY hfirst
    refine callsIn_of_wp Tryz.func66 rfl h66 ?_ hro
    simp only [Tryz.ntmps66, List.size_toArray, List.length_cons, List.length_nil, Nat.reduceAdd, Nat.reduceSub, Array.replicate_succ, Array.replicate_zero, List.push_toArray, List.append_toArray, List.nil_append, List.cons_append]
    gi_wp2_with ((try refine ⟨hdd _, ?_⟩); refine hR.mono ?_; clear hR; rintro e W2 (⟨rfl, hJ2, hk2, c2⟩ | ⟨rfl, hx2⟩))
    · clear hy cb cy
      gi_loopw [17] (fun i wr => ∃ (j : Nat) (ys : List It), j ≤ ls.length ∧ i = .int .i64 j ∧ Hid (ys.map projI = (d, V.mk k nn ls) :: V.alls (ls.take j) (d + 1)) ∧ J (pre ++ ys) wr ∧ Hid (KpC b1 b2 (W.alloc (.cells #[.int .u8 k, .int .i64 nn, .slice A ls.length c] 24)) wr)) (fun i _ => ls.length - (intOf i).toNat)
      case atStart => exact ⟨0, [⟨d, .mk k nn ls, A, c⟩], Nat.zero_le _, rfl, by rw [List.take_zero, V.alls]; exact Lib.hid rfl, hJ2, hk2⟩
      case round =>
        obtain ⟨j, ys, hj, rfl, hys, hJs, hks⟩ := hrel
        by_cases hlt : j < ls.length
        · obtain ⟨y, hyj⟩ : ∃ y, ls[j]? = some y := ⟨ls[j], List.getElem?_eq_getElem hlt⟩
          have hmem : y ∈ ls := List.mem_of_getElem? hyj
          obtain ⟨hk0, hb0, g1, g2, hV, hVis0, hVis⟩ := HX.out
          have hVr := (hk0.trans hks.out).vsl hVis.n1 hVis.n2 hV
          have hVisr := hVis0.kept hks.out
          obtain ⟨gg, oo, A1, c1, rfl, hgg, p0, p1, p2, hA1⟩ := hVr.at_ hyj
          have hk3 : KpC b1 b2 wr (wr.alloc (.cells #[.int .u8 y.k, .int .i64 y.n, .slice A1 y.l.length c1] 24)) := KpC.alloc _ _ _ _
          have hVis3 := hVisr.kept hk3
          have hsz := sizes_take ls j y hyj
          have hlen : ys.length = 1 + V.sizes (ls.take j) := by
            have := congrArg List.length hys.out
            rw [List.length_map, List.length_cons, alls_length] at this
            omega
          have hcall := IH.out y hmem (n - 1) (d + 1) (pre ++ ys) A1 c1 _ (hk3.vsl hVis.n1 hVis.n2 hA1) hVis3 (hA _ _ _ hJs) (by rw [List.length_append]; omega) (by omega)
          have e1 : ((d + 1 : Nat) : Int) = (d : Int) + 1 := by omega
          rw [e1] at hcall
          have HC : Hid (CallsIn F (n - 1) Tryz.prog 66 #[.int .i64 ((d : Int) + 1), .agg #[.int .u8 y.k, .int .i64 y.n, .slice A1 y.l.length c1], .pointer (some ⟨By, 0, none⟩), .pointer (some ⟨Bv, 0, none⟩)] (wr.alloc (.cells #[.int .u8 y.k, .int .i64 y.n, .slice A1 y.l.length c1] 24)) fun e W' =>
            (e = .returned (.bool true) ∧ (∃ zs : List It, zs.map projI = y.all (d + 1) ∧ J (pre ++ ys ++ zs) W') ∧ KpC b1 b2 (wr.alloc (.cells #[.int .u8 y.k, .int .i64 y.n, .slice A1 y.l.length c1] 24)) W') ∨ (e = .returned (.bool false) ∧ ∃ q : List It, q.map projI <+: y.all (d + 1) ∧ Jx (pre ++ ys ++ q) W')) := hcall
          have cv := hVis3.v.cell 0
          have hsn := alls_snoc ls j (d + 1) y hyj
          have hpr := alls_pre ls j (d + 1) y hyj
          have HY := Lib.hid (And.intro hk3 (And.intro hsn hpr))
          have j0 : (0 : Int) ≤ (j : Int) := by omega
          have j1 : (j : Int) < (ls.length : Int) := by omega
          have hdb : d + 1 ≤ 1000000 := by omega
          have hlz : ls.length ≤ 1000000 := by have := len_le_sizes ls; omega
          clear hcall e1 hVr hVisr hVis3 hVis0 hVis hA1 hV hb0 g1 g2 hk0 hk3 hsn hpr hsz hlen hmem hyj HX IH
          gi_wp2_with ((try refine ⟨hdd _, ?_⟩); gi_at_call 66; refine HC.out.mono ?_; clear HC; rintro e W4 (⟨rfl, ⟨zs, hz, hJz⟩, hk4⟩ | ⟨rfl, q, hq, hxq⟩))
          · go_roundw
            case rel => exact ⟨j + 1, ys ++ zs, by omega, by go_num, by rw [HY.out.2.1, List.map_append, hys.out, hz]; exact Lib.hid rfl, by rw [← List.append_assoc]; exact hJz, (hks.out.trans HY.out.1).trans hk4⟩
            case measure => simp [intOf]; omega
          · go_ret
            refine .inr ⟨rfl, ys ++ q, ?_, by rw [← List.append_assoc]; exact hxq⟩
            rw [List.map_append, hys.out, V.all, List.cons_append]
            exact (List.prefix_cons_inj _).2 (((List.prefix_append_right_inj _).2 hq).trans HY.out.2.2)
        · obtain rfl : j = ls.length := by omega
          gi_wp2_with fail
          go_ret
          refine .inl ⟨rfl, ⟨ys, ?_, hJs⟩, HX.out.1.trans hks.out⟩
          rw [hys.out, V.all, List.take_length]
    · go_ret
      exact .inr ⟨rfl, [⟨d, .mk k nn ls, A, c⟩], by rw [V.all]; exact ⟨V.alls ls (d + 1), rfl⟩, hx2⟩
end Go.Proofs.YtbhekkkijomglaaGreatDoor
