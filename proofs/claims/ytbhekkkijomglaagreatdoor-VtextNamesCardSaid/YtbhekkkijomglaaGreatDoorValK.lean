/- The iterator over a value: what it hands back. -/
import Derived.RangeFuncNested
import Derived.RangeFuncBound
import Derived.RangeFuncCalls
import Derived.RangeFuncLeaves
import Derived.Shelf.Abstract
import Derived.Shelf.RegionOpen
import Derived.WalkKit
import Derived.OwnWalkIn
import Derived.TacticsInMore
import Derived.LoopNIn
import Derived.LoopIn
import Derived.Test.YtbhekkkijomglaaGreatDoorShelf
import Derived.Test.YtbhekkkijomglaaGreatDoorValAZ
import Derived.Test.YtbhekkkijomglaaGreatDoorValS
import Derived.Test.YtbhekkkijomglaaGreatDoorValJ
namespace Go.Proofs.YtbhekkkijomglaaGreatDoor
open Go.RowKit Go.Shelf

attribute [local go_sem] Oper.semAt_some



section
variable {a : Addr} {m : Mode} {P : Program} {w : World}
theorem store_func (f : Fn) (x y : Array Value) : (store a (.func f x y) m).run P w = stored P w a (.func f x y) m := run_store P w a _ m rfl
end
attribute [local go_sem] store_func

theorem room_of (F : Fence) (hd : F.depth = none) (k : Nat) : F.room k := fun d h => by rw [hd] at h; cases h
/-- Where no depth is asked, its figures are all one. -/
theorem yield_depth {F : Fence} (hd : F.depth = none) {m : Nat} (m' : Nat) {P : Program} {l : Nat} {args : Array Value} {W : World} {R : Ending → World → Prop} (h : YieldAt F m P l args W R) : YieldAt F m' P l args W R := by
  obtain ⟨fn, tmps, assign, body, hy, hR⟩ := h
  exact ⟨fn, tmps, assign, body, hy, hR.1, fun c cs _ => hR.2 c cs (room_of F hd _)⟩

set_option maxRecDepth 100000 in
set_option maxHeartbeats 2000000 in
theorem all1_in (F : Fence) (hd : F.depth = none) (n : Nat) (h65 : F.fn 65) (h66 : F.fn 66) (hro : F.round = none) (l Bt b1 b2 n0 : Nat) (J Jx : List It → World → Prop)
    (hA : ∀ pre W o, J pre W → J pre (W.alloc o)) (v : V) (A : Option Addr) (c : Nat) (hsz : v.size < 1000000)
    (hY : ∀ pre x W, J pre W → pre.length < v.size → YieldAt F (n - 1) Tryz.prog l (encI x) W fun e W' =>
      (e = .returned (.bool true) ∧ J (pre ++ [x]) W' ∧ KpC b1 b2 W W') ∨ (e = .returned (.bool false) ∧ Jx (pre ++ [x]) W'))
    (W : World) (hBt : Blk W Bt 24 #[.int .u8 v.k, .int .i64 v.n, .slice A v.l.length c]) (hV : Vsl W n0 A v.l) (n1 : n0 ≤ b1) (n2 : n0 ≤ b2) (s1 : b1 < W.heap.size) (s2 : b2 < W.heap.size) (nt1 : Bt ≠ b1) (nt2 : Bt ≠ b2) (h0 : J [] W) :
    CallsIn F n Tryz.prog 65 #[.func (.yield l) #[] #[], .pointer (some ⟨Bt, 0, none⟩)] W fun e W' => (∃ v, e = .returned v) ∧
      ((∃ ys : List It, ys.map projI = v.all 1 ∧ J ys W') ∨ (∃ pre : List It, pre.map projI <+: v.all 1 ∧ Jx pre W')) := by
  have hdd : ∀ k : Nat, (F.depth.isSome = true → 1 ≤ k) := fun k h => by rw [hd] at h; cases h
  have hk1 : KpC b1 b2 W (W.alloc (.cells #[.func (.yield l) #[] #[]] 124)) := KpC.alloc _ _ _ _
  have hk2 : KpC b1 b2 (W.alloc (.cells #[.func (.yield l) #[] #[]] 124)) ((W.alloc (.cells #[.func (.yield l) #[] #[]] 124)).alloc (.cells #[.func (.func 66) #[] #[.pointer (some ⟨W.heap.size, 0, none⟩), .pointer (some ⟨W.heap.size + 1, 0, none⟩)]] 124)) := KpC.alloc _ _ _ _
  have hb1 := Blk.new W 124 #[.func (.yield l) #[] #[]]
  have hb2 := Blk.new (W.alloc (.cells #[.func (.yield l) #[] #[]] 124)) 124 #[.func (.func 66) #[] #[.pointer (some ⟨W.heap.size, 0, none⟩), .pointer (some ⟨W.heap.size + 1, 0, none⟩)]]
  rw [World.size_alloc] at hb2
  have hvis : Vis l W.heap.size (W.heap.size + 1) b1 b2 n0 ((W.alloc (.cells #[.func (.yield l) #[] #[]] 124)).alloc (.cells #[.func (.func 66) #[] #[.pointer (some ⟨W.heap.size, 0, none⟩), .pointer (some ⟨W.heap.size + 1, 0, none⟩)]] 124)) :=
    ⟨hk2.blk hb1 (by omega) (by omega), hb2, by omega, by omega, by omega, by omega, n1, n2, Nat.lt_of_lt_of_le s1 (hk1.trans hk2).size, Nat.lt_of_lt_of_le s2 (hk1.trans hk2).size⟩
  have hp := visit_in F hd h66 hro l W.heap.size (W.heap.size + 1) b1 b2 n0 v.size J Jx hA (fun m pre x W hj hl => yield_depth hd m (hY pre x W hj hl)) v (n - 1) 1 [] A c _ ((hk1.trans hk2).vsl n1 n2 hV) hvis (hA _ _ _ (hA _ _ _ h0)) (by simp) (by omega)
  have cv := hvis.v.cell 0
  have ct := (hk2.blk (hk1.blk hBt nt1 nt2) nt1 nt2).three.1
  have cn := Blk.new (W.alloc (.cells #[.func (.yield l) #[] #[]] 124)) 124 #[.nilFunc]
  rw [World.size_alloc] at cn
  have cn1 := cn.cell 0
  have cn2 := cn.frozen 0
  clear cn
  show CallsIn F n Tryz.prog 65 _ W _
  have HP : Hid (CallsIn F (n - 1) Tryz.prog 66 #[.int .i64 1, .agg #[.int .u8 v.k, .int .i64 v.n, .slice A v.l.length c], .pointer (some ⟨W.heap.size, 0, none⟩), .pointer (some ⟨W.heap.size + 1, 0, none⟩)] _ _) := hp
  clear hp hk1 hk2 hb1 hb2 hvis hY hBt
  refine callsIn_of_wp Tryz.func65 rfl h65 ?_ hro
  simp only [Tryz.ntmps65, List.size_toArray, List.length_cons, List.length_nil, Nat.reduceAdd, Nat.reduceSub, Array.replicate_succ, Array.replicate_zero, List.push_toArray, List.append_toArray, List.nil_append, List.cons_append]
  gi_wp2_with ((try refine ⟨hdd _, ?_⟩); gi_at_call 66; refine HP.out.mono ?_; clear HP; rintro e W1 (⟨rfl, ⟨ys, hys, hJ1⟩, _⟩ | ⟨rfl, q, hq, hx⟩))
  · go_end0
    exact ⟨⟨_, rfl⟩, .inl ⟨ys, hys, by simpa using hJ1⟩⟩
  · go_end0
    exact ⟨⟨_, rfl⟩, .inr ⟨q, hq, by simpa using hx⟩⟩

theorem all_in (F : Fence) (n : Nat) (h41 : F.fn 41) (hro : F.round = none) (v : V) (A : Option Addr) (c : Nat) (w : World) :
    CallsIn F n Tryz.prog 41 #[vAgg v A c] w fun e w' => e = .returned (.func (.func 65) #[] #[.pointer (some ⟨w.heap.size, 0, none⟩)]) ∧ w' = w.alloc (.cells #[.int .u8 v.k, .int .i64 v.n, .slice A v.l.length c] 24) := by
  refine callsIn_of_wp Tryz.func41 rfl h41 ?_ hro
  show Code.wpIn _ _ _ _ _ { tmps := #[.agg #[.int .u8 v.k, .int .i64 v.n, .slice A v.l.length c]] ++ _, defers := _ } _
  simp only [Tryz.ntmps41, List.size_toArray, List.length_cons, List.length_nil, Nat.reduceAdd, Nat.reduceSub, Array.replicate_succ, Array.replicate_zero, List.push_toArray, List.append_toArray, List.nil_append, List.cons_append]
  gi_wp2
  go_ret
  exact ⟨rfl, rfl⟩

/-- What val.all hands back. -/
theorem all_stops (F : Fence) (hd : F.depth = none) (n : Nat) (h65 : F.fn 65) (h66 : F.fn 66) (hro : F.round = none) (Bt b1 b2 n0 : Nat) (v : V) (A : Option Addr) (c : Nat) (hsz : v.size < 1000000) (w : World)
    (hBt : Blk w Bt 24 #[.int .u8 v.k, .int .i64 v.n, .slice A v.l.length c]) (hV : Vsl w n0 A v.l) (n1 : n0 ≤ b1) (n2 : n0 ≤ b2) (s1 : b1 < w.heap.size) (s2 : b2 < w.heap.size) (nt1 : Bt ≠ b1) (nt2 : Bt ≠ b2) :
    SeqStopsK F n Tryz.prog 65 #[.pointer (some ⟨Bt, 0, none⟩)] encI (KpC b1 b2) (fun ys => ys.map projI = v.all 1) (fun pre => pre.map projI <+: v.all 1) v.size w := fun l J Jx W hW hJ _ hY h0 =>
  all1_in F hd n h65 h66 hro l Bt b1 b2 n0 J Jx (fun pre X o h => hJ pre X _ none h (World.grownBy_alloc X o none) (fun r e => by cases e)) v A c hsz hY W (hBt.below hW hBt.lt) (hV.carry (Nat.le_refl _) fun p u hp hu => (hW.cell (Nat.lt_of_lt_of_le hp (Nat.le_trans n1 (Nat.le_of_lt s1)))).trans hu) n1 n2 (Nat.lt_of_lt_of_le s1 hW.size) (Nat.lt_of_lt_of_le s2 hW.size) nt1 nt2 h0
end Go.Proofs.YtbhekkkijomglaaGreatDoor
