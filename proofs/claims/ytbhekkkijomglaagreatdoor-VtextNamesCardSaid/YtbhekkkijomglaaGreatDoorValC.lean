/- The walk of Check: what is wrong of a value. -/
import Derived.RangeFuncNested
import Derived.RangeFuncBound
import Derived.RangeFuncCalls
import Derived.RangeFuncLeaves
import Derived.Shelf.Abstract
import Derived.Shelf.RegionOpen
import Derived.WalkKit
import Derived.OwnWalkIn
import Derived.TacticsInMore
import Derived.LoopNIn
import Derived.LoopIn
import Derived.Test.YtbhekkkijomglaaGreatDoorShelf
import Derived.Test.YtbhekkkijomglaaGreatDoorValAZ
import Derived.Test.YtbhekkkijomglaaGreatDoorValS
import Derived.Test.YtbhekkkijomglaaGreatDoorValJ
import Derived.Test.YtbhekkkijomglaaGreatDoorValK
import Derived.Test.YtbhekkkijomglaaGreatDoorValW
namespace Go.Proofs.YtbhekkkijomglaaGreatDoor
open Go.RowKit Go.Shelf

attribute [local go_sem] Oper.semAt_some




/-- What holds between two rounds. -/
structure CkI (w : World) (xs : List It) (W : World) : Prop where
  b : Below w.heap.size w W
  r : Blk W (w.heap.size + 1) 27 #[.int .i64 0]
  s : Blk W (w.heap.size + 2) 3 #[.int .i64 (xs.length : Nat)]
  m : Blk W (w.heap.size + 3) 3 #[.int .i64 (maxD (xs.map projI) : Nat)]
  z : ∀ q ∈ xs.map projI, nE q = 0
  w : w.heap.size + 5 ≤ W.heap.size
/-- What holds where a round has found something wrong. -/
structure CkX (w : World) (c : Code) (xs : List It) (W : World) : Prop where
  c : c = .ret
  b : Below w.heap.size w W
  e : ∃ pre p, xs.map projI = pre ++ [p] ∧ (∀ q ∈ pre, nE q = 0) ∧ nE p ≠ 0 ∧ Blk W (w.heap.size + 1) 27 #[.int .i64 (nE p : Nat)]
theorem CkI.own (w : World) : OwnFrom (w.heap.size + 5) (CkI w) := fun s W W' row h hg hr =>
  ⟨h.b.grown hg h.b.size (fun k e => by have := (hr k e).1; omega), h.r.grown hg (fun e => by have := (hr _ e.symm).1; omega), h.s.grown hg (fun e => by have := (hr _ e.symm).1; omega), h.m.grown hg (fun e => by have := (hr _ e.symm).1; omega), h.z, Nat.le_trans h.w hg.size⟩
theorem CkX.own (w : World) (c : Code) : OwnFrom (w.heap.size + 5) (CkX w c) := fun s W W' row h hg hr => by
  obtain ⟨hc, hb, pre, p, h1, h2, h3, h4⟩ := h
  exact ⟨hc, hb.grown hg hb.size (fun k e => by have := (hr k e).1; omega), pre, p, h1, h2, h3, h4.grown hg (fun e => by have := (hr _ e.symm).1; omega)⟩
theorem keeps_below {B : Nat} {W W' : World} (h : Below W.heap.size W W') : KeepsFrom B W W' :=
  ⟨h.size, fun k _ _ hk _ => (h.block k (Array.getElem?_eq_some_iff.1 hk).1).trans hk⟩
theorem KpC.of_below {b1 b2 : Nat} {W W' : World} (h : Below W.heap.size W W') : KpC b1 b2 W W' :=
  ⟨h.size, fun b _ _ _ _ _ hk => (h.block b (Array.getElem?_eq_some_iff.1 hk).1).trans hk⟩
theorem KpC.two (b1 b2 : Nat) (W : World) (u1 u2 : Value) : KpC b1 b2 W ((W.setCell ⟨b1, 0, none⟩ u1).setCell ⟨b2, 0, none⟩ u2).drew :=
  ⟨by simp, fun b _ _ _ n1 n2 hk => (Below.heap_setCell _ ⟨b2, 0, none⟩ u2 b n2).trans ((Below.heap_setCell _ ⟨b1, 0, none⟩ u1 b n1).trans hk)⟩
theorem KpC.put {b1 b2 : Nat} {w : World} (h1 : b1 < w.heap.size) (h2 : b2 < w.heap.size) (W : World) (l : Nat) (o o' : Obj) (hl : w.heap.size ≤ l) (h : W.heap[l]? = some o) (hc : o.isCells = false) (_ : o.isWalk = false) : KpC b1 b2 W (W.putObj l o') := by
  have hg := grownBy_putObj' W l o'
  refine ⟨hg.size, fun b cs t f _ _ hk => (hg.block b (Array.getElem?_eq_some_iff.1 hk).1 ?_).trans hk⟩
  intro e
  cases e
  rw [h] at hk
  cases hk
  cases hc

set_option maxRecDepth 100000 in
set_option maxHeartbeats 2000000 in
theorem vcheck_in (F : Fence) (hd : F.depth = none) (hro : F.round = none) (h30 : F.fn 30) (h41 : F.fn 41) (h42 : F.fn 42) (h65 : F.fn 65) (h66 : F.fn 66)
    (hwr : ∀ n k (nn : Int) len (A : Option Addr) c W, CallsIn F n Tryz.prog 42 #[.agg #[.int .u8 (k : Nat), .int .i64 nn, .slice A len c]] W fun e w' => e = .returned (.int .i64 (nodeE k nn len : Nat)) ∧ Below W.heap.size W w')
    (v : V) (A : Option Addr) (c : Nat) (w : World) (hV : Vsl w w.heap.size A v.l) (hsz : v.size < 1000000) :
    CallsIn F 10 Tryz.prog 30 #[vAgg v A c] w fun e w' => e = .returned (.int .i64 (v.check : Nat)) ∧ Below w.heap.size w w' := by
  have hdd : ∀ k : Nat, (F.depth.isSome = true → 1 ≤ k) := fun k h => by rw [hd] at h; cases h
  refine callsIn_of_wp_marks Tryz.func30 rfl h30 ?_ hro
  show Code.wpIn _ _ _ _ _ { tmps := #[.agg #[.int .u8 v.k, .int .i64 v.n, .slice A v.l.length c]] ++ _, defers := _ } _
  have HA := Lib.hid (fun W => all_in F 9 h41 hro v A c W)
  change Hid (∀ W, CallsIn F 9 Tryz.prog 41 #[.agg #[.int .u8 v.k, .int .i64 v.n, .slice A v.l.length c]] W _) at HA
  simp only [Tryz.ntmps30, List.size_toArray, List.length_cons, List.length_nil, Nat.reduceAdd, Nat.reduceSub, Array.replicate_succ, Array.replicate_zero, List.push_toArray, List.append_toArray, List.nil_append, List.cons_append]
  gi_wp2_with ((try refine ⟨hdd _, ?_⟩); gi_at_call 41; refine (HA.out _).mono ?_; rintro e w' ⟨rfl, rfl⟩)
  clear HA
  have hvb : Blk (w.alloc (.cells #[.int .u8 v.k, .int .i64 v.n, .slice A v.l.length c] 24)) w.heap.size 24 #[.int .u8 v.k, .int .i64 v.n, .slice A v.l.length c] := Blk.new _ _ _
  have hb1 := Blk.new (w.alloc (.cells #[.int .u8 v.k, .int .i64 v.n, .slice A v.l.length c] 24)) 27 #[.int .i64 0]
  have hb2 := Blk.new ((w.alloc (.cells #[.int .u8 v.k, .int .i64 v.n, .slice A v.l.length c] 24)).alloc (.cells #[.int .i64 0] 27)) 3 #[.int .i64 0]
  have hb3 := Blk.new (((w.alloc (.cells #[.int .u8 v.k, .int .i64 v.n, .slice A v.l.length c] 24)).alloc (.cells #[.int .i64 0] 27)).alloc (.cells #[.int .i64 0] 3)) 3 #[.int .i64 0]
  have hb4 := Blk.new ((((w.alloc (.cells #[.int .u8 v.k, .int .i64 v.n, .slice A v.l.length c] 24)).alloc (.cells #[.int .i64 0] 27)).alloc (.cells #[.int .i64 0] 3)).alloc (.cells #[.int .i64 0] 3)) 24 #[.int .u8 v.k, .int .i64 v.n, .slice A v.l.length c]
  have hB := ((((Below.refl w.heap.size w).alloc (Nat.le_refl _) (.cells #[.int .u8 v.k, .int .i64 v.n, .slice A v.l.length c] 24)).alloc (by simp) (.cells #[.int .i64 0] 27)).alloc (by simp; omega) (.cells #[.int .i64 0] 3)).alloc (by simp; omega) (.cells #[.int .i64 0] 3) |>.alloc (by simp; omega) (.cells #[.int .u8 v.k, .int .i64 v.n, .slice A v.l.length c] 24)
  have hb1' := ((hb1.alloc (.cells #[.int .i64 0] 3)).alloc (.cells #[.int .i64 0] 3)).alloc (.cells #[.int .u8 v.k, .int .i64 v.n, .slice A v.l.length c] 24)
  have hb2' := (hb2.alloc (.cells #[.int .i64 0] 3)).alloc (.cells #[.int .u8 v.k, .int .i64 v.n, .slice A v.l.length c] 24)
  have hb3' := hb3.alloc (.cells #[.int .u8 v.k, .int .i64 v.n, .slice A v.l.length c] 24)
  clear hb1 hb2 hb3 hvb
  simp only [World.size_alloc] at hb1' hb2' hb3' hb4 ⊢
  have hs0 : (((((w.alloc (.cells #[.int .u8 v.k, .int .i64 v.n, .slice A v.l.length c] 24)).alloc (.cells #[.int .i64 0] 27)).alloc (.cells #[.int .i64 0] 3)).alloc (.cells #[.int .i64 0] 3)).alloc (.cells #[.int .u8 v.k, .int .i64 v.n, .slice A v.l.length c] 24)).heap.size = w.heap.size + 5 := by simp
  obtain ⟨W0, hW0⟩ : ∃ W0, (((((w.alloc (.cells #[.int .u8 v.k, .int .i64 v.n, .slice A v.l.length c] 24)).alloc (.cells #[.int .i64 0] 27)).alloc (.cells #[.int .i64 0] 3)).alloc (.cells #[.int .i64 0] 3)).alloc (.cells #[.int .u8 v.k, .int .i64 v.n, .slice A v.l.length c] 24)) = W0 := ⟨_, rfl⟩
  rw [hW0] at hb1' hb2' hb3' hb4 hB hs0 ⊢
  clear hW0
  refine wpIn_rangeFunc_ownH hro (by omega) (gf := 65) (lb := #[.pointer (some ⟨w.heap.size + 1 + 1 + 1 + 1, 0, none⟩)]) rfl h65 (enters_of Tryz.func65 (by kernel_rfl) rfl)
    (all_stops F hd 9 h65 h66 hro (w.heap.size + 1 + 1 + 1 + 1) (w.heap.size + 2) (w.heap.size + 3) w.heap.size v A c hsz W0 hb4 (hV.held hB) (by omega) (by omega) (by omega) (by omega) (by omega) (by omega))
    KpC.trans (KpC.put (by omega) (by omega)) (Below.refl _ _) (fun _ => rfl) (CkI w) (CkX w) (by rw [hs0]; exact CkI.own w) (fun c => by rw [hs0]; exact CkX.own w c)
    ⟨hB, hb1', hb2', hb3', fun q h => (by cases h), by omega⟩
    (fun x a' W => ∃ Bx, w.heap.size + 5 ≤ Bx ∧ Blk W Bx 24 #[.int .u8 x.v.k, .int .i64 x.v.n, .slice x.A x.v.l.length x.c] ∧ a' = { tmps := #[.agg #[.int .u8 v.k, .int .i64 v.n, .slice A v.l.length c], .pointer (some ⟨w.heap.size, 0, none⟩), .pointer (some ⟨w.heap.size + 1, 0, none⟩), .pointer (some ⟨w.heap.size + 2, 0, none⟩), .pointer (some ⟨w.heap.size + 3, 0, none⟩), .int .i64 x.d, .pointer (some ⟨Bx, 0, none⟩), undef, .agg #[.int .u8 v.k, .int .i64 v.n, .slice A v.l.length c], .func (.func 65) #[] #[.pointer (some ⟨w.heap.size + 4, 0, none⟩)], .int .i64 x.d, .agg #[.int .u8 x.v.k, .int .i64 x.v.n, .slice x.A x.v.l.length x.c], undef, undef, undef, undef, undef, undef, undef, undef, undef, undef, undef, undef, undef, undef, undef, undef], defers := [] })
    (fun x a' _ X Y row h hg hr => by
      obtain ⟨Bx, e1, e2, e3⟩ := h
      refine ⟨Bx, e1, e2.grown hg (fun e => ?_), e3⟩
      obtain ⟨_, o, ho, hc⟩ := hr _ e.symm
      rw [e2] at ho
      cases ho
      cases hc)
    ?assign ?body ?done ?stop
  case assign =>
    rintro l pre x W K hI hK
    simp only [encI, vAgg]
    gi_wp2
    exact hK _ _ ((KeepsOthers.alloc _ _).from _) (KpC.alloc _ _ _ _) ⟨hI.b.alloc hI.b.size _, hI.r.alloc _, hI.s.alloc _, hI.m.alloc _, hI.z, (by have := hI.w; rw [World.size_alloc]; omega)⟩ ⟨W.heap.size, hI.w, Blk.new _ _ _, rfl⟩
  case body =>
    rintro l pre x a' W hl ⟨r, hr⟩ hI ⟨Bx, hBx, bX, rfl⟩ hlt
    obtain ⟨⟨x0, x1, x2⟩, _⟩ := bX.three
    have hns : nodeE x.v.k x.v.n x.v.l.length = nE (projI x) := rfl
    have HW : Hid (∀ n, CallsIn (F.inRound l) n Tryz.prog 42 #[.agg #[.int .u8 x.v.k, .int .i64 x.v.n, .slice x.A x.v.l.length x.c]] W fun e W2 => e = .returned (.int .i64 (nE (projI x) : Nat)) ∧ Hid (Below W.heap.size W W2) ∧ (W2.cell? ⟨w.heap.size + 1, 0, none⟩ = some (.int .i64 0) ∧ W2.frozen? ⟨w.heap.size + 1, 0, none⟩ = false) ∧ (W2.cell? ⟨w.heap.size + 2, 0, none⟩ = some (.int .i64 (pre.length : Nat)) ∧ W2.frozen? ⟨w.heap.size + 2, 0, none⟩ = false) ∧ (W2.cell? ⟨w.heap.size + 3, 0, none⟩ = some (.int .i64 (maxD (pre.map projI) : Nat)) ∧ W2.frozen? ⟨w.heap.size + 3, 0, none⟩ = false)) := fun n =>
      (CallsIn.inRound l (hwr n x.v.k x.v.n x.v.l.length x.A x.c W)).mono fun e W2 ⟨h1, h2⟩ => ⟨by rw [← hns]; exact h1, h2, ⟨(hI.r.below h2 hI.r.lt).cell 0, (hI.r.below h2 hI.r.lt).frozen 0⟩, ⟨(hI.s.below h2 hI.s.lt).cell 0, (hI.s.below h2 hI.s.lt).frozen 0⟩, ⟨(hI.m.below h2 hI.m.lt).cell 0, (hI.m.below h2 hI.m.lt).frozen 0⟩⟩
    have HI := Lib.hid hI
    clear hI bX hns hwr hb1' hb2' hb3' hb4 hB hV hr
    by_cases hE : nE (projI x) = 0
    · rw [hE] at HW
      have hpl : pre.length ≤ 1000000 := by omega
      have hmx : Tryz.prog.follows .mixedOrders = true := by kernel_rfl
      gi_wp2_with ((try refine ⟨hdd _, ?_⟩); gi_at_call 42; refine (HW.out _).mono ?_; clear HW; rintro e W2 ⟨rfl, hb2, ⟨cr, fr⟩, ⟨cs, fs⟩, ⟨cm, fm⟩⟩)
      have hI := HI.out
      have hw : IntKind.i64.wrap ((pre.length : Int) + 1) = (((pre ++ [x]).length : Nat) : Int) := by
        rw [List.length_append]
        show IntKind.i64.wrap ((pre.length : Int) + 1) = ((pre.length + 1 : Nat) : Int)
        have h0 : (-9223372036854775808 : Int) ≤ (pre.length : Int) + 1 := by omega
        have h1 : (pre.length : Int) + 1 < 9223372036854775808 := by omega
        rw [IntWalk.i64_in _ ⟨h0, by omega⟩]
        omega
      have hm : max ((maxD (pre.map projI) : Nat) : Int) (x.d : Int) = ((maxD ((pre ++ [x]).map projI) : Nat) : Int) := by
        rw [List.map_append, show [x].map projI = [projI x] from rfl, maxD_snoc]
        show _ = ((max (maxD (pre.map projI)) x.d : Nat) : Int)
        omega
      have key : KeepsFrom W0.heap.size W ((W2.setCell ⟨w.heap.size + 2, 0, none⟩ (.int .i64 (IntKind.i64.wrap ((pre.length : Int) + 1)))).setCell ⟨w.heap.size + 3, 0, none⟩ (.int .i64 (max ((maxD (pre.map projI) : Nat) : Int) (x.d : Int)))).drew ∧
          KpC (w.heap.size + 2) (w.heap.size + 3) W ((W2.setCell ⟨w.heap.size + 2, 0, none⟩ (.int .i64 (IntKind.i64.wrap ((pre.length : Int) + 1)))).setCell ⟨w.heap.size + 3, 0, none⟩ (.int .i64 (max ((maxD (pre.map projI) : Nat) : Int) (x.d : Int)))).drew ∧
          CkI w (pre ++ [x]) ((W2.setCell ⟨w.heap.size + 2, 0, none⟩ (.int .i64 (IntKind.i64.wrap ((pre.length : Int) + 1)))).setCell ⟨w.heap.size + 3, 0, none⟩ (.int .i64 (max ((maxD (pre.map projI) : Nat) : Int) (x.d : Int)))).drew := by
        refine ⟨(keeps_below hb2.out).trans ((((KeepsOthers.setCell _ _ _).trans (KeepsOthers.setCell _ _ _)).trans (KeepsOthers.drew _)).from _), (KpC.of_below hb2.out).trans (KpC.two _ _ _ _ _), ?_⟩
        have hbb := (hI.b.trans (hb2.out.mono hI.b.size))
        exact ⟨below_drewN ((hbb.setCell (p := ⟨w.heap.size + 2, 0, none⟩) (by simp) _).setCell (p := ⟨w.heap.size + 3, 0, none⟩) (by simp) _) 1,
          (((hI.r.below hb2.out hI.r.lt).far (p := ⟨w.heap.size + 2, 0, none⟩) (by simp) _).far (p := ⟨w.heap.size + 3, 0, none⟩) (by simp) _),
          by rw [hw]; exact (((hI.s.below hb2.out hI.s.lt).set_ 0 _).far (p := ⟨w.heap.size + 3, 0, none⟩) (by simp) _),
          by rw [hm]; exact (((hI.m.below hb2.out hI.m.lt).far (p := ⟨w.heap.size + 2, 0, none⟩) (by simp) _).set_ 0 _),
          fun q hq => by
            rw [List.map_append] at hq
            rcases List.mem_append.1 hq with h | h
            · exact hI.z q h
            · obtain rfl : q = projI x := by simpa using h
              exact hE,
          by have h1 := hI.w; have h2 := hb2.out.size; simp; omega⟩
      have KEY := Lib.hid key
      clear key hw hm hI HI
      gi_region_with_o fail
      all_goals exact KEY.out
    · have hEb : (((nE (projI x) : Nat) : Int) != 0) = true := bne_iff_ne.2 (by omega)
      generalize hE2 : nE (projI x) = E at HW hEb
      gi_wp2_with ((try refine ⟨hdd _, ?_⟩); gi_at_call 42; refine (HW.out _).mono ?_; clear HW; rintro e W2 ⟨rfl, hb2, ⟨cr, fr⟩, ⟨cs, fs⟩, ⟨cm, fm⟩⟩)
      have hI := HI.out
      refine ⟨(keeps_below hb2.out).trans ((KeepsOthers.setCell _ _ _).from _), rfl, ?_, pre.map projI, projI x, by rw [List.map_append]; rfl, hI.z, hE, ?_⟩
      · exact (hI.b.trans (hb2.out.mono hI.b.size)).setCell (p := ⟨w.heap.size + 1, 0, none⟩) (by simp) _
      · rw [hE2]; exact (hI.r.below hb2.out hI.r.lt).set_ 0 _
  case done =>
    rintro D xs W hD hS hI hK
    have hk := check_all v
    rw [← hS, first_none hI.z, if_neg (by simp), List.length_map] at hk
    have cr : W.cell? ⟨w.heap.size + 1, 0, none⟩ = some (.int .i64 0) := hI.r.cell 0
    have fr : W.frozen? ⟨w.heap.size + 1, 0, none⟩ = false := hI.r.frozen 0
    have cs : W.cell? ⟨w.heap.size + 1 + 1, 0, none⟩ = some (.int .i64 (xs.length : Nat)) := hI.s.cell 0
    have cm : W.cell? ⟨w.heap.size + 1 + 1 + 1, 0, none⟩ = some (.int .i64 (maxD (xs.map projI) : Nat)) := hI.m.cell 0
    have HI := Lib.hid hI
    clear hI hS
    generalize maxD (xs.map projI) = M at *
    generalize xs.length = L at *
    by_cases h1 : 128 < M
    · rw [if_pos h1] at hk
      have h1' : (128 : Int) < (M : Int) := by omega
      gi_wp2_with fail
      have hK' := (KeepsOthers.setCell W ⟨w.heap.size + 1, 0, none⟩ (.int .i64 9)).same D _ hK rfl
      have hB3 := (HI.out.r.set_ 0 (.int .i64 9)).grown (grownBy_putObj' _ D (.deferred none)) (fun e => by cases e; omega)
      refine ⟨by simp, .inl ⟨_, _, rfl, run_takeDeferred hK', ?_⟩⟩
      have hc5 := hB3.cell 0
      refine ⟨.int .i64 9, ?_, by first | rfl | (rw [hk]; rfl), (HI.out.b.setCell (p := ⟨w.heap.size + 1, 0, none⟩) (by simp) _).trans (belowK_b (w := w) (Nat.le_refl _) _ D _ _ (by omega) hK' rfl rfl)⟩
      simp [results, Tryz.f30, go_sem, hc5]
    · rw [if_neg h1] at hk
      have h1' : ¬ (128 : Int) < (M : Int) := by omega
      by_cases h2 : 4096 < L
      · rw [if_pos h2] at hk
        have h2' : (4096 : Int) < (L : Int) := by omega
        gi_wp2_with fail
        have hK' := (KeepsOthers.setCell W ⟨w.heap.size + 1, 0, none⟩ (.int .i64 5)).same D _ hK rfl
        have hB3 := (HI.out.r.set_ 0 (.int .i64 5)).grown (grownBy_putObj' _ D (.deferred none)) (fun e => by cases e; omega)
        refine ⟨by simp, .inl ⟨_, _, rfl, run_takeDeferred hK', ?_⟩⟩
        have hc5 := hB3.cell 0
        refine ⟨.int .i64 5, ?_, by first | rfl | (rw [hk]; rfl), (HI.out.b.setCell (p := ⟨w.heap.size + 1, 0, none⟩) (by simp) _).trans (belowK_b (w := w) (Nat.le_refl _) _ D _ _ (by omega) hK' rfl rfl)⟩
        simp [results, Tryz.f30, go_sem, hc5]
      · rw [if_neg h2] at hk
        have h2' : ¬ (4096 : Int) < (L : Int) := by omega
        gi_wp2_with fail
        have hK' := (KeepsOthers.setCell W ⟨w.heap.size + 1, 0, none⟩ (.int .i64 0)).same D _ hK rfl
        have hB3 := (HI.out.r.set_ 0 (.int .i64 0)).grown (grownBy_putObj' _ D (.deferred none)) (fun e => by cases e; omega)
        refine ⟨by simp, .inl ⟨_, _, rfl, run_takeDeferred hK', ?_⟩⟩
        have hc5 := hB3.cell 0
        refine ⟨.int .i64 0, ?_, by first | rfl | (rw [hk]; rfl), (HI.out.b.setCell (p := ⟨w.heap.size + 1, 0, none⟩) (by simp) _).trans (belowK_b (w := w) (Nat.le_refl _) _ D _ _ (by omega) hK' rfl rfl)⟩
        simp [results, Tryz.f30, go_sem, hc5]
  case stop =>
    rintro D c1 pre W hD hS ⟨rfl, hB2, pre', p, e1, e2, e3, e4⟩ hK
    have hk := check_all v
    rw [e1] at hS
    rw [first_pre hS e2 e3, if_pos e3] at hk
    have cr : W.cell? ⟨w.heap.size + 1, 0, none⟩ = some (.int .i64 (nE p : Nat)) := e4.cell 0
    gi_wp2
    have hB3 := e4.grown (grownBy_putObj' W D (.deferred none)) (fun e => by cases e; omega)
    refine ⟨by simp, .inl ⟨_, _, rfl, run_takeDeferred hK, ?_⟩⟩
    have hc5 := hB3.cell 0
    refine ⟨.int .i64 (nE p : Nat), ?_, by rw [hk], hB2.trans (belowK_b (w := w) (Nat.le_refl _) W D _ _ (by omega) hK rfl rfl)⟩
    simp [results, Tryz.f30, go_sem, hc5]

theorem wrong_len (k : Nat) (nn : Int) (len : Nat) (A : Option Addr) (c : Nat) (w : World) :
    Calls Tryz.prog 42 #[.agg #[.int .u8 k, .int .i64 nn, .slice A len c]] w fun e w' => e = .returned (.int .i64 (nodeE k nn len : Nat)) ∧ Below w.heap.size w w' := by
  have h := vwrong_any (.mk k nn (List.replicate len (.mk 0 0 []))) A c w
  change Calls Tryz.prog 42 #[.agg #[.int .u8 k, .int .i64 nn, .slice A (List.replicate len (V.mk 0 0 [])).length c]] w (fun e w' => e = .returned (.int .i64 (nodeE k nn (List.replicate len (V.mk 0 0 [])).length : Nat)) ∧ Below w.heap.size w w') at h
  rw [List.length_replicate] at h
  exact h

theorem vcheck_any (v : V) (A : Option Addr) (c : Nat) (w : World) (hV : Vsl w w.heap.size A v.l) (hsz : v.size < 1000000) :
    Calls Tryz.prog 30 #[vAgg v A c] w fun e w' => e = .returned (.int .i64 (v.check : Nat)) ∧ Below w.heap.size w w' :=
  (callsIn_wide (n := 10)).1 (vcheck_in Fence.wide rfl rfl trivial trivial trivial trivial trivial
    (fun n k nn len A c W => (callsIn_wide (n := n)).2 (wrong_len k nn len A c W)) v A c w hV hsz)
end Go.Proofs.YtbhekkkijomglaaGreatDoor
