/- The reader's value: a leaf; a Tuple or a List. -/
import Derived.Test.YtbhekkkijomglaaGreatDoorRdF
namespace Go.Proofs.YtbhekkkijomglaaGreatDoor
open Go.RowKit

/-- Items are read. -/
def IOk (s : ByteArray) (rb : Nat) (p e : Int) (vs : List V) (a m : Nat) (w : World) (en : Ending) (w' : World) : Prop :=
  ∃ A c, en = .returned (.tuple #[.slice A vs.length c, .bool true]) ∧ RdB w' rb s a m p e ∧ w.grownBy w' (some rb) ∧ Vsp w' (Fr w.heap.size w') A vs
/-- None are read. -/
def IBad (s : ByteArray) (rb : Nat) (p e : Int) (w : World) (en : Ending) (w' : World) : Prop :=
  ∃ a m, en = .returned (.tuple #[.slice none 0 0, .bool false]) ∧ RdB w' rb s a m p e ∧ w.grownBy w' (some rb)

set_option maxRecDepth 100000 in
set_option maxHeartbeats 4000000 in
theorem value_leaf (s : ByteArray) (a m deep item : Nat) (p e : Int) (rb : Nat) (w : World) (hs : s.size ≤ 1048576) (ha : a ≤ s.size) (hm : m ≤ 4096) (hv : Env w) (hk : RdB w rb s a m p e) (kk b d : Nat) (n : Int) (l : List UInt8) (pl : Nat) (hx : nx s.data.toList a = ((kk, b, d, n, l), pl, 0)) (bk : Nat) (bn : Int) (be : Nat) (hb : beginV (kk, b, d, n, l) = (.mk bk bn [], be)) (hbe : be = 0) (hi : ¬ 64 < item) (hd : ¬ 128 < deep) (hmm : ¬ 4096 < m + 1) (hce : (V.mk bk bn []).check = 0) (hbk : bk ≠ 3 ∧ bk ≠ 4) :
    Calls Tryz.prog 39 #[.agg #[.pointer (some ⟨rb, 0, none⟩), .int .i64 deep], .int .i64 item] w (VOk s rb p e (.mk bk bn []) d (m + 1) w) := by
  obtain ⟨kL, kR, kB, g0⟩ := lv_all (deep := deep) hk
  have hrl := hk.lt
  have HN := Lib.hid (rnext_ok s a m p e rb (lvW w rb deep) hs ha ((hv.alloc _).alloc _) kB kk b d n l pl hx)
  have HG := Lib.hid (fun W => begin_lit kk b d n l bk bn be hb W)
  have HL := Lib.hid (And.intro kL (And.intro kR (And.intro g0 hrl)))
  have c0 := kL.cell 0
  simp at c0
  have hmw : IntKind.i64.wrap ((m : Int) + 1) = (m : Int) + 1 := IntWalk.i64_in _ ⟨by omega, by omega⟩
  subst hbe
  have hi1 : ¬ (64 : Int) < (item : Int) := by omega
  have hd1 : ¬ (128 : Int) < (deep : Int) := by omega
  have hm1 : ¬ (4096 : Int) < (m : Int) + 1 := by omega
  have hC := fun W => check_lit bk bn W
  rw [hce] at hC
  have HC := Lib.hid hC
  clear hC
  have hb3 : ((bk : Int) == 3) = false := beq_eq_false_iff_ne.2 (by omega)
  have hb4 : ((bk : Int) == 4) = false := beq_eq_false_iff_ne.2 (by omega)
  clear kL kR kB g0 hk hv hx hrl hb hs ha
  go_enter Tryz.func39, Tryz.ntmps39
  go_wp2_with fail
  refine HN.out.mono ?_
  rintro e' w1 ⟨rfl, hR1, hg1⟩
  have HW := Lib.hid (And.intro hR1 hg1)
  clear hR1 hg1 HN c0
  go_wp2_with fail
  refine (HG.out _).mono ?_
  rintro e' w2 ⟨rfl, hb2⟩
  have M1 := mid_start (bk := bk) (bn := bn) HL.out HW.out.1 HW.out.2 hb2
  have c2 := M1.kB.cell 2
  have f2 := M1.kB.frozen 2
  simp at c2
  have M2 := M1.many ((m : Int) + 1)
  obtain ⟨⟨y0, y1, y2, y3, y4⟩, _⟩ := M2.kM.five
  obtain ⟨⟨v0, v1, v2⟩, _⟩ := M2.kV.three
  have l1 := M2.kL.cell 1
  have r2 := M2.kB.cell 2
  simp at l1 r2
  have HM := Lib.hid M2
  clear hb2 M1 M2 HW HL HG
  generalize w1.heap.size = M at *
  generalize hV9 : w2.heap.size = V9 at *
  go_wp2_with fail
  refine (HC.out _).mono ?_
  rintro e' w3 ⟨rfl, hb3⟩
  have M3 := HM.out.held hb3
  clear HM hb3 y0 y1 y2 y3 y4 v0 v1 v2 l1 r2 c2 f2
  obtain ⟨⟨y0, y1, y2, y3, y4⟩, _⟩ := M3.kM.five
  obtain ⟨⟨v0, v1, v2⟩, _⟩ := M3.kV.three
  have l1 := M3.kL.cell 1
  have r2 := M3.kB.cell 2
  have c2 := M3.kB.cell 1
  have f2 := M3.kB.frozen 1
  simp at c2
  have M5 := M3.at_ (d : Int)
  obtain ⟨⟨v3, v4, v5⟩, g3, g4, g5⟩ := M5.kV.three
  obtain ⟨⟨z0, z1, z2⟩, x0, x1, x2⟩ := M5.kR.three
  have l0 := M5.kL.cell 1
  simp at l0
  have HM := Lib.hid M5
  clear M3 M5
  go_wp2_with fail
  refine bodyPost_ret (v := .tuple #[.agg #[.int .u8 bk, .int .i64 bn, .slice none 0 0], .bool true]) (by simp [results, Tryz.results39, go_sem, z0, z1, z2]) rfl ⟨none, 0, rfl, ?_, ?_, .emp _⟩
  · exact (HM.out.bad _ _ _).1
  · exact (HM.out.bad _ _ _).2

/-- What is left of it, where the value's items are stored. -/
theorem Mid.far9 {w W : World} {rb deep M V9 : Nat} {kk b d : Nat} {n : Int} {l : List UInt8} {bk : Nat} {bn : Int} {s : ByteArray} {a m p e : Int} (h : Mid w W rb deep M V9 kk b d n l bk bn s a m p e) (u : Value) :
    RdB (W.setCell ⟨V9, 2, none⟩ u) rb s a m p e ∧ w.grownBy (W.setCell ⟨V9, 2, none⟩ u) (some rb) ∧ rb < w.heap.size :=
  ⟨h.kB.far (p := ⟨V9, 2, none⟩) (by have := h.hr; have := h.hM; have := h.hV; show rb ≠ V9; omega) _, only_setCell h.g (p := ⟨V9, 2, none⟩) (.inr (by have := h.hM; have := h.hV; show w.heap.size ≤ V9; omega)) _, h.hr⟩
theorem bad9 {w W : World} {rb : Nat} {s : ByteArray} {a m p e : Int} (h : RdB W rb s a m p e ∧ w.grownBy W (some rb) ∧ rb < w.heap.size) (u v x : Value) :
    RdB (((W.setCell ⟨w.heap.size + 1, 0, none⟩ u).setCell ⟨w.heap.size + 1, 1, none⟩ v).setCell ⟨w.heap.size + 1, 2, none⟩ x) rb s a m p e ∧ w.grownBy (((W.setCell ⟨w.heap.size + 1, 0, none⟩ u).setCell ⟨w.heap.size + 1, 1, none⟩ v).setCell ⟨w.heap.size + 1, 2, none⟩ x) (some rb) := by
  obtain ⟨hk, hg, hr⟩ := h
  have e0 : ∀ i, rb ≠ (⟨w.heap.size + 1, i, none⟩ : Addr).block := fun i => by show rb ≠ w.heap.size + 1; omega
  have e1 : ∀ i, (⟨w.heap.size + 1, i, none⟩ : Addr).block = rb ∨ w.heap.size ≤ (⟨w.heap.size + 1, i, none⟩ : Addr).block := fun i => .inr (Nat.le_succ _)
  exact ⟨((hk.far (e0 0) _).far (e0 1) _).far (e0 2) _, only_setCell (only_setCell (only_setCell hg (e1 0) _) (e1 1) _) (e1 2) _⟩
theorem fresh_three {W : World} {B R B' : Nat} {A : Option Addr} {l : List V} (h : Vsp W (Fr B W) A l) (hR : R < B) (hB : B' ≤ B) (u v x : Value) :
    Vsp (((W.setCell ⟨R, 0, none⟩ u).setCell ⟨R, 1, none⟩ v).setCell ⟨R, 2, none⟩ x) (Fr B' (((W.setCell ⟨R, 0, none⟩ u).setCell ⟨R, 1, none⟩ v).setCell ⟨R, 2, none⟩ x)) A l :=
  h.fresh_keep (only_setCell (only_setCell (only_setCell (only_refl W (some R)) (p := ⟨R, 0, none⟩) (.inl rfl) _) (p := ⟨R, 1, none⟩) (.inl rfl) _) (p := ⟨R, 2, none⟩) (.inl rfl) _) hB (fun g q => by injection q with q; omega)
theorem fresh_end {w W w6 : World} {rb deep M V9 : Nat} {kk b d : Nat} {n : Int} {l : List UInt8} {bk : Nat} {bn : Int} {s : ByteArray} {a m p e : Int} (h : Mid w W rb deep M V9 kk b d n l bk bn s a m p e) {A : Option Addr} {vs : List V} (hV : Vsp w6 (Fr W.heap.size w6) A vs) (y : Value) (u v x : Value) :
    Vsp ((((w6.setCell ⟨V9, 2, none⟩ y).setCell ⟨w.heap.size + 1, 0, none⟩ u).setCell ⟨w.heap.size + 1, 1, none⟩ v).setCell ⟨w.heap.size + 1, 2, none⟩ x) (Fr w.heap.size ((((w6.setCell ⟨V9, 2, none⟩ y).setCell ⟨w.heap.size + 1, 0, none⟩ u).setCell ⟨w.heap.size + 1, 1, none⟩ v).setCell ⟨w.heap.size + 1, 2, none⟩ x)) A vs := by
  have h1 := h.kV.lt
  have h2 := h.g.size
  have h3 := h.hM
  have h4 := h.hV
  exact fresh_three (hV.fresh_keep (only_setCell (only_refl w6 (some V9)) (p := ⟨V9, 2, none⟩) (.inl rfl) y) (Nat.le_refl _) (fun g q => by injection q with q; omega)) (by omega) (by omega) u v x

set_option maxRecDepth 100000 in
set_option maxHeartbeats 4000000 in
theorem value_row3 (s : ByteArray) (a m deep item : Nat) (p e : Int) (rb : Nat) (w : World) (hs : s.size ≤ 1048576) (ha : a ≤ s.size) (hm : m ≤ 4096) (hv : Env w) (hk : RdB w rb s a m p e) (kk b d : Nat) (n : Int) (l : List UInt8) (pl : Nat) (hx : nx s.data.toList a = ((kk, b, d, n, l), pl, 0)) (bk : Nat) (bn : Int) (be : Nat) (hb : beginV (kk, b, d, n, l) = (.mk bk bn [], be)) (hbe : be = 0) (hi : ¬ 64 < item) (hd : ¬ 128 < deep) (hmm : ¬ 4096 < m + 1) (hce : (V.mk bk bn []).check = 0) (hbk : bk = 3) (vs : List V) (a' m' : Nat) (hI : ∀ W, RdB W rb s d ((m : Int) + 1) p e → w.grownBy W (some rb) → Calls Tryz.prog 63 #[.pointer (some ⟨rb, 0, none⟩), .int .u8 bk, .func (.func 39) #[.agg #[.pointer (some ⟨rb, 0, none⟩), .int .i64 ((deep : Int) + 1)]] #[]] W (IOk s rb p e vs a' m' W)) :
    Calls Tryz.prog 39 #[.agg #[.pointer (some ⟨rb, 0, none⟩), .int .i64 deep], .int .i64 item] w (VOk s rb p e (.mk bk bn vs) a' m' w) := by
  obtain ⟨kL, kR, kB, g0⟩ := lv_all (deep := deep) hk
  have hrl := hk.lt
  have HN := Lib.hid (rnext_ok s a m p e rb (lvW w rb deep) hs ha ((hv.alloc _).alloc _) kB kk b d n l pl hx)
  have HG := Lib.hid (fun W => begin_lit kk b d n l bk bn be hb W)
  have HL := Lib.hid (And.intro kL (And.intro kR (And.intro g0 hrl)))
  have c0 := kL.cell 0
  simp at c0
  have hmw : IntKind.i64.wrap ((m : Int) + 1) = (m : Int) + 1 := IntWalk.i64_in _ ⟨by omega, by omega⟩
  subst hbe
  have hi1 : ¬ (64 : Int) < (item : Int) := by omega
  have hd1 : ¬ (128 : Int) < (deep : Int) := by omega
  have hm1 : ¬ (4096 : Int) < (m : Int) + 1 := by omega
  have hC := fun W => check_lit bk bn W
  rw [hce] at hC
  have HC := Lib.hid hC
  clear hC
  have hb3 : ((bk : Int) == 3) = true := by rw [hbk]; rfl
  clear hbk
  have hdw : IntKind.i64.wrap ((deep : Int) + 1) = (deep : Int) + 1 := IntWalk.i64_in _ ⟨by omega, by omega⟩
  have hmf : ∀ (fn : Fn) (first cap : Array Value) (w : World), (Instr.makeFunc fn first cap).run Tryz.prog w = .ok (.func fn first cap) w := fun _ _ _ _ => rfl
  have HI := Lib.hid hI
  clear kL kR kB g0 hk hv hx hrl hb hs ha
  go_enter Tryz.func39, Tryz.ntmps39
  go_wp2_with fail
  refine HN.out.mono ?_
  rintro e' w1 ⟨rfl, hR1, hg1⟩
  have HW := Lib.hid (And.intro hR1 hg1)
  clear hR1 hg1 HN c0
  go_wp2_with fail
  refine (HG.out _).mono ?_
  rintro e' w2 ⟨rfl, hb2⟩
  have M1 := mid_start (bk := bk) (bn := bn) HL.out HW.out.1 HW.out.2 hb2
  have c2 := M1.kB.cell 2
  have f2 := M1.kB.frozen 2
  simp at c2
  have M2 := M1.many ((m : Int) + 1)
  obtain ⟨⟨y0, y1, y2, y3, y4⟩, _⟩ := M2.kM.five
  obtain ⟨⟨v0, v1, v2⟩, _⟩ := M2.kV.three
  have l1 := M2.kL.cell 1
  have r2 := M2.kB.cell 2
  simp at l1 r2
  have HM := Lib.hid M2
  clear hb2 M1 M2 HW HL HG
  generalize w1.heap.size = M at *
  generalize hV9 : w2.heap.size = V9 at *
  go_wp2_with fail
  refine (HC.out _).mono ?_
  rintro e' w3 ⟨rfl, hb3⟩
  have M3 := HM.out.held hb3
  clear HM hb3 y0 y1 y2 y3 y4 v0 v1 v2 l1 r2 c2 f2
  obtain ⟨⟨y0, y1, y2, y3, y4⟩, _⟩ := M3.kM.five
  obtain ⟨⟨v0, v1, v2⟩, _⟩ := M3.kV.three
  have l1 := M3.kL.cell 1
  have r2 := M3.kB.cell 2
  have c2 := M3.kB.cell 1
  have f2 := M3.kB.frozen 1
  simp at c2
  have M5 := M3.at_ (d : Int)
  obtain ⟨⟨v3, v4, v5⟩, g3, g4, g5⟩ := M5.kV.three
  obtain ⟨⟨z0, z1, z2⟩, x0, x1, x2⟩ := M5.kR.three
  have l0 := M5.kL.cell 1
  simp at l0
  have HM := Lib.hid M5
  clear M3 M5
  go_wp2_with fail
  refine (HI.out _ HM.out.kB HM.out.g).mono ?_
  rintro e' w6 ⟨A, c, rfl, hR6, hg6, hV6⟩
  have M6 := HM.out.grown hg6 hR6
  clear v3 v4 v5 g3 g4 g5 z0 z1 z2 x0 x1 x2 l0 y0 y1 y2 y3 y4 v0 v1 v2 l1 r2 c2 f2
  have d2 := M6.kV.cell 2
  have h2 := M6.kV.frozen 2
  simp at d2
  have kv := M6.kV.set_ 2 (.slice A vs.length c)
  simp at kv
  obtain ⟨⟨v3, v4, v5⟩, _⟩ := kv.three
  have n3 : w.heap.size + 1 ≠ V9 := by have := M6.hM; have := M6.hV; omega
  obtain ⟨⟨z0, z1, z2⟩, x0, x1, x2⟩ := (M6.kR.far (p := ⟨V9, 2, none⟩) n3 (.slice A vs.length c)).three
  have HF := Lib.hid (fresh_end HM.out hV6 (.slice A vs.length c))
  have H6 := Lib.hid (M6.far9 (.slice A vs.length c))
  clear M6 kv HM HI hR6 hg6 hV6
  go_wp2_with fail
  refine bodyPost_ret (v := .tuple #[.agg #[.int .u8 bk, .int .i64 bn, .slice A vs.length c], .bool true]) (by simp [results, Tryz.results39, go_sem, z0, z1, z2]) rfl ⟨A, c, rfl, (bad9 H6.out _ _ _).1, (bad9 H6.out _ _ _).2, ?_⟩
  exact HF.out _ _ _

set_option maxRecDepth 100000 in
set_option maxHeartbeats 4000000 in
theorem value_row4 (s : ByteArray) (a m deep item : Nat) (p e : Int) (rb : Nat) (w : World) (hs : s.size ≤ 1048576) (ha : a ≤ s.size) (hm : m ≤ 4096) (hv : Env w) (hk : RdB w rb s a m p e) (kk b d : Nat) (n : Int) (l : List UInt8) (pl : Nat) (hx : nx s.data.toList a = ((kk, b, d, n, l), pl, 0)) (bk : Nat) (bn : Int) (be : Nat) (hb : beginV (kk, b, d, n, l) = (.mk bk bn [], be)) (hbe : be = 0) (hi : ¬ 64 < item) (hd : ¬ 128 < deep) (hmm : ¬ 4096 < m + 1) (hce : (V.mk bk bn []).check = 0) (hbk : bk = 4) (vs : List V) (a' m' : Nat) (hI : ∀ W, RdB W rb s d ((m : Int) + 1) p e → w.grownBy W (some rb) → Calls Tryz.prog 63 #[.pointer (some ⟨rb, 0, none⟩), .int .u8 bk, .func (.func 39) #[.agg #[.pointer (some ⟨rb, 0, none⟩), .int .i64 ((deep : Int) + 1)]] #[]] W (IOk s rb p e vs a' m' W)) :
    Calls Tryz.prog 39 #[.agg #[.pointer (some ⟨rb, 0, none⟩), .int .i64 deep], .int .i64 item] w (VOk s rb p e (.mk bk bn vs) a' m' w) := by
  obtain ⟨kL, kR, kB, g0⟩ := lv_all (deep := deep) hk
  have hrl := hk.lt
  have HN := Lib.hid (rnext_ok s a m p e rb (lvW w rb deep) hs ha ((hv.alloc _).alloc _) kB kk b d n l pl hx)
  have HG := Lib.hid (fun W => begin_lit kk b d n l bk bn be hb W)
  have HL := Lib.hid (And.intro kL (And.intro kR (And.intro g0 hrl)))
  have c0 := kL.cell 0
  simp at c0
  have hmw : IntKind.i64.wrap ((m : Int) + 1) = (m : Int) + 1 := IntWalk.i64_in _ ⟨by omega, by omega⟩
  subst hbe
  have hi1 : ¬ (64 : Int) < (item : Int) := by omega
  have hd1 : ¬ (128 : Int) < (deep : Int) := by omega
  have hm1 : ¬ (4096 : Int) < (m : Int) + 1 := by omega
  have hC := fun W => check_lit bk bn W
  rw [hce] at hC
  have HC := Lib.hid hC
  clear hC
  have hb3 : ((bk : Int) == 3) = false := by rw [hbk]; rfl
  have hb4 : ((bk : Int) == 4) = true := by rw [hbk]; rfl
  clear hbk
  have hdw : IntKind.i64.wrap ((deep : Int) + 1) = (deep : Int) + 1 := IntWalk.i64_in _ ⟨by omega, by omega⟩
  have hmf : ∀ (fn : Fn) (first cap : Array Value) (w : World), (Instr.makeFunc fn first cap).run Tryz.prog w = .ok (.func fn first cap) w := fun _ _ _ _ => rfl
  have HI := Lib.hid hI
  clear kL kR kB g0 hk hv hx hrl hb hs ha
  go_enter Tryz.func39, Tryz.ntmps39
  go_wp2_with fail
  refine HN.out.mono ?_
  rintro e' w1 ⟨rfl, hR1, hg1⟩
  have HW := Lib.hid (And.intro hR1 hg1)
  clear hR1 hg1 HN c0
  go_wp2_with fail
  refine (HG.out _).mono ?_
  rintro e' w2 ⟨rfl, hb2⟩
  have M1 := mid_start (bk := bk) (bn := bn) HL.out HW.out.1 HW.out.2 hb2
  have c2 := M1.kB.cell 2
  have f2 := M1.kB.frozen 2
  simp at c2
  have M2 := M1.many ((m : Int) + 1)
  obtain ⟨⟨y0, y1, y2, y3, y4⟩, _⟩ := M2.kM.five
  obtain ⟨⟨v0, v1, v2⟩, _⟩ := M2.kV.three
  have l1 := M2.kL.cell 1
  have r2 := M2.kB.cell 2
  simp at l1 r2
  have HM := Lib.hid M2
  clear hb2 M1 M2 HW HL HG
  generalize w1.heap.size = M at *
  generalize hV9 : w2.heap.size = V9 at *
  go_wp2_with fail
  refine (HC.out _).mono ?_
  rintro e' w3 ⟨rfl, hb3⟩
  have M3 := HM.out.held hb3
  clear HM hb3 y0 y1 y2 y3 y4 v0 v1 v2 l1 r2 c2 f2
  obtain ⟨⟨y0, y1, y2, y3, y4⟩, _⟩ := M3.kM.five
  obtain ⟨⟨v0, v1, v2⟩, _⟩ := M3.kV.three
  have l1 := M3.kL.cell 1
  have r2 := M3.kB.cell 2
  have c2 := M3.kB.cell 1
  have f2 := M3.kB.frozen 1
  simp at c2
  have M5 := M3.at_ (d : Int)
  obtain ⟨⟨v3, v4, v5⟩, g3, g4, g5⟩ := M5.kV.three
  obtain ⟨⟨z0, z1, z2⟩, x0, x1, x2⟩ := M5.kR.three
  have l0 := M5.kL.cell 1
  simp at l0
  have HM := Lib.hid M5
  clear M3 M5
  go_wp2_with fail
  refine (HI.out _ HM.out.kB HM.out.g).mono ?_
  rintro e' w6 ⟨A, c, rfl, hR6, hg6, hV6⟩
  have M6 := HM.out.grown hg6 hR6
  clear v3 v4 v5 g3 g4 g5 z0 z1 z2 x0 x1 x2 l0 y0 y1 y2 y3 y4 v0 v1 v2 l1 r2 c2 f2
  have d2 := M6.kV.cell 2
  have h2 := M6.kV.frozen 2
  simp at d2
  have kv := M6.kV.set_ 2 (.slice A vs.length c)
  simp at kv
  obtain ⟨⟨v3, v4, v5⟩, _⟩ := kv.three
  have n3 : w.heap.size + 1 ≠ V9 := by have := M6.hM; have := M6.hV; omega
  obtain ⟨⟨z0, z1, z2⟩, x0, x1, x2⟩ := (M6.kR.far (p := ⟨V9, 2, none⟩) n3 (.slice A vs.length c)).three
  have HF := Lib.hid (fresh_end HM.out hV6 (.slice A vs.length c))
  have H6 := Lib.hid (M6.far9 (.slice A vs.length c))
  clear M6 kv HM HI hR6 hg6 hV6
  go_wp2_with fail
  refine bodyPost_ret (v := .tuple #[.agg #[.int .u8 bk, .int .i64 bn, .slice A vs.length c], .bool true]) (by simp [results, Tryz.results39, go_sem, z0, z1, z2]) rfl ⟨A, c, rfl, (bad9 H6.out _ _ _).1, (bad9 H6.out _ _ _).2, ?_⟩
  exact HF.out _ _ _

set_option maxRecDepth 100000 in
set_option maxHeartbeats 4000000 in
theorem value_bad3 (s : ByteArray) (a m deep item : Nat) (p e : Int) (rb : Nat) (w : World) (hs : s.size ≤ 1048576) (ha : a ≤ s.size) (hm : m ≤ 4096) (hv : Env w) (hk : RdB w rb s a m p e) (kk b d : Nat) (n : Int) (l : List UInt8) (pl : Nat) (hx : nx s.data.toList a = ((kk, b, d, n, l), pl, 0)) (bk : Nat) (bn : Int) (be : Nat) (hb : beginV (kk, b, d, n, l) = (.mk bk bn [], be)) (hbe : be = 0) (hi : ¬ 64 < item) (hd : ¬ 128 < deep) (hmm : ¬ 4096 < m + 1) (hce : (V.mk bk bn []).check = 0) (hbk : bk = 3) (p' e' : Int) (hI : ∀ W, RdB W rb s d ((m : Int) + 1) p e → w.grownBy W (some rb) → Calls Tryz.prog 63 #[.pointer (some ⟨rb, 0, none⟩), .int .u8 bk, .func (.func 39) #[.agg #[.pointer (some ⟨rb, 0, none⟩), .int .i64 ((deep : Int) + 1)]] #[]] W (IBad s rb p' e' W)) :
    Calls Tryz.prog 39 #[.agg #[.pointer (some ⟨rb, 0, none⟩), .int .i64 deep], .int .i64 item] w (VBad s rb p' e' w) := by
  obtain ⟨kL, kR, kB, g0⟩ := lv_all (deep := deep) hk
  have hrl := hk.lt
  have HN := Lib.hid (rnext_ok s a m p e rb (lvW w rb deep) hs ha ((hv.alloc _).alloc _) kB kk b d n l pl hx)
  have HG := Lib.hid (fun W => begin_lit kk b d n l bk bn be hb W)
  have HL := Lib.hid (And.intro kL (And.intro kR (And.intro g0 hrl)))
  have c0 := kL.cell 0
  simp at c0
  have hmw : IntKind.i64.wrap ((m : Int) + 1) = (m : Int) + 1 := IntWalk.i64_in _ ⟨by omega, by omega⟩
  subst hbe
  have hi1 : ¬ (64 : Int) < (item : Int) := by omega
  have hd1 : ¬ (128 : Int) < (deep : Int) := by omega
  have hm1 : ¬ (4096 : Int) < (m : Int) + 1 := by omega
  have hC := fun W => check_lit bk bn W
  rw [hce] at hC
  have HC := Lib.hid hC
  clear hC
  have hb3 : ((bk : Int) == 3) = true := by rw [hbk]; rfl
  clear hbk
  have hdw : IntKind.i64.wrap ((deep : Int) + 1) = (deep : Int) + 1 := IntWalk.i64_in _ ⟨by omega, by omega⟩
  have hmf : ∀ (fn : Fn) (first cap : Array Value) (w : World), (Instr.makeFunc fn first cap).run Tryz.prog w = .ok (.func fn first cap) w := fun _ _ _ _ => rfl
  have HI := Lib.hid hI
  clear kL kR kB g0 hk hv hx hrl hb hs ha
  go_enter Tryz.func39, Tryz.ntmps39
  go_wp2_with fail
  refine HN.out.mono ?_
  rintro e' w1 ⟨rfl, hR1, hg1⟩
  have HW := Lib.hid (And.intro hR1 hg1)
  clear hR1 hg1 HN c0
  go_wp2_with fail
  refine (HG.out _).mono ?_
  rintro e' w2 ⟨rfl, hb2⟩
  have M1 := mid_start (bk := bk) (bn := bn) HL.out HW.out.1 HW.out.2 hb2
  have c2 := M1.kB.cell 2
  have f2 := M1.kB.frozen 2
  simp at c2
  have M2 := M1.many ((m : Int) + 1)
  obtain ⟨⟨y0, y1, y2, y3, y4⟩, _⟩ := M2.kM.five
  obtain ⟨⟨v0, v1, v2⟩, _⟩ := M2.kV.three
  have l1 := M2.kL.cell 1
  have r2 := M2.kB.cell 2
  simp at l1 r2
  have HM := Lib.hid M2
  clear hb2 M1 M2 HW HL HG
  generalize w1.heap.size = M at *
  generalize hV9 : w2.heap.size = V9 at *
  go_wp2_with fail
  refine (HC.out _).mono ?_
  rintro e' w3 ⟨rfl, hb3⟩
  have M3 := HM.out.held hb3
  clear HM hb3 y0 y1 y2 y3 y4 v0 v1 v2 l1 r2 c2 f2
  obtain ⟨⟨y0, y1, y2, y3, y4⟩, _⟩ := M3.kM.five
  obtain ⟨⟨v0, v1, v2⟩, _⟩ := M3.kV.three
  have l1 := M3.kL.cell 1
  have r2 := M3.kB.cell 2
  have c2 := M3.kB.cell 1
  have f2 := M3.kB.frozen 1
  simp at c2
  have M5 := M3.at_ (d : Int)
  obtain ⟨⟨v3, v4, v5⟩, g3, g4, g5⟩ := M5.kV.three
  obtain ⟨⟨z0, z1, z2⟩, x0, x1, x2⟩ := M5.kR.three
  have l0 := M5.kL.cell 1
  simp at l0
  have HM := Lib.hid M5
  clear M3 M5
  go_wp2_with fail
  refine (HI.out _ HM.out.kB HM.out.g).mono ?_
  rintro e' w6 ⟨a6, m6, rfl, hR6, hg6⟩
  have M6 := HM.out.grown hg6 hR6
  clear v3 v4 v5 g3 g4 g5 z0 z1 z2 x0 x1 x2 l0 y0 y1 y2 y3 y4 v0 v1 v2 l1 r2 c2 f2
  have d2 := M6.kV.cell 2
  have h2 := M6.kV.frozen 2
  simp at d2
  have kv := M6.kV.set_ 2 (.slice none 0 0)
  simp at kv
  obtain ⟨⟨v3, v4, v5⟩, _⟩ := kv.three
  have n3 : w.heap.size + 1 ≠ V9 := by have := M6.hM; have := M6.hV; omega
  obtain ⟨⟨z0, z1, z2⟩, x0, x1, x2⟩ := (M6.kR.far (p := ⟨V9, 2, none⟩) n3 (.slice none 0 0)).three
  have H6 := Lib.hid (M6.far9 (.slice none 0 0))
  clear M6 kv HM HI hR6 hg6
  go_wp2_with fail
  refine bodyPost_ret (v := .tuple #[.agg #[.int .u8 bk, .int .i64 bn, .slice none 0 0], .bool false]) (by simp [results, Tryz.results39, go_sem, z0, z1, z2]) rfl ⟨bk, bn, _, _, rfl, bad9 H6.out _ _ _⟩

set_option maxRecDepth 100000 in
set_option maxHeartbeats 4000000 in
theorem value_bad4 (s : ByteArray) (a m deep item : Nat) (p e : Int) (rb : Nat) (w : World) (hs : s.size ≤ 1048576) (ha : a ≤ s.size) (hm : m ≤ 4096) (hv : Env w) (hk : RdB w rb s a m p e) (kk b d : Nat) (n : Int) (l : List UInt8) (pl : Nat) (hx : nx s.data.toList a = ((kk, b, d, n, l), pl, 0)) (bk : Nat) (bn : Int) (be : Nat) (hb : beginV (kk, b, d, n, l) = (.mk bk bn [], be)) (hbe : be = 0) (hi : ¬ 64 < item) (hd : ¬ 128 < deep) (hmm : ¬ 4096 < m + 1) (hce : (V.mk bk bn []).check = 0) (hbk : bk = 4) (p' e' : Int) (hI : ∀ W, RdB W rb s d ((m : Int) + 1) p e → w.grownBy W (some rb) → Calls Tryz.prog 63 #[.pointer (some ⟨rb, 0, none⟩), .int .u8 bk, .func (.func 39) #[.agg #[.pointer (some ⟨rb, 0, none⟩), .int .i64 ((deep : Int) + 1)]] #[]] W (IBad s rb p' e' W)) :
    Calls Tryz.prog 39 #[.agg #[.pointer (some ⟨rb, 0, none⟩), .int .i64 deep], .int .i64 item] w (VBad s rb p' e' w) := by
  obtain ⟨kL, kR, kB, g0⟩ := lv_all (deep := deep) hk
  have hrl := hk.lt
  have HN := Lib.hid (rnext_ok s a m p e rb (lvW w rb deep) hs ha ((hv.alloc _).alloc _) kB kk b d n l pl hx)
  have HG := Lib.hid (fun W => begin_lit kk b d n l bk bn be hb W)
  have HL := Lib.hid (And.intro kL (And.intro kR (And.intro g0 hrl)))
  have c0 := kL.cell 0
  simp at c0
  have hmw : IntKind.i64.wrap ((m : Int) + 1) = (m : Int) + 1 := IntWalk.i64_in _ ⟨by omega, by omega⟩
  subst hbe
  have hi1 : ¬ (64 : Int) < (item : Int) := by omega
  have hd1 : ¬ (128 : Int) < (deep : Int) := by omega
  have hm1 : ¬ (4096 : Int) < (m : Int) + 1 := by omega
  have hC := fun W => check_lit bk bn W
  rw [hce] at hC
  have HC := Lib.hid hC
  clear hC
  have hb3 : ((bk : Int) == 3) = false := by rw [hbk]; rfl
  have hb4 : ((bk : Int) == 4) = true := by rw [hbk]; rfl
  clear hbk
  have hdw : IntKind.i64.wrap ((deep : Int) + 1) = (deep : Int) + 1 := IntWalk.i64_in _ ⟨by omega, by omega⟩
  have hmf : ∀ (fn : Fn) (first cap : Array Value) (w : World), (Instr.makeFunc fn first cap).run Tryz.prog w = .ok (.func fn first cap) w := fun _ _ _ _ => rfl
  have HI := Lib.hid hI
  clear kL kR kB g0 hk hv hx hrl hb hs ha
  go_enter Tryz.func39, Tryz.ntmps39
  go_wp2_with fail
  refine HN.out.mono ?_
  rintro e' w1 ⟨rfl, hR1, hg1⟩
  have HW := Lib.hid (And.intro hR1 hg1)
  clear hR1 hg1 HN c0
  go_wp2_with fail
  refine (HG.out _).mono ?_
  rintro e' w2 ⟨rfl, hb2⟩
  have M1 := mid_start (bk := bk) (bn := bn) HL.out HW.out.1 HW.out.2 hb2
  have c2 := M1.kB.cell 2
  have f2 := M1.kB.frozen 2
  simp at c2
  have M2 := M1.many ((m : Int) + 1)
  obtain ⟨⟨y0, y1, y2, y3, y4⟩, _⟩ := M2.kM.five
  obtain ⟨⟨v0, v1, v2⟩, _⟩ := M2.kV.three
  have l1 := M2.kL.cell 1
  have r2 := M2.kB.cell 2
  simp at l1 r2
  have HM := Lib.hid M2
  clear hb2 M1 M2 HW HL HG
  generalize w1.heap.size = M at *
  generalize hV9 : w2.heap.size = V9 at *
  go_wp2_with fail
  refine (HC.out _).mono ?_
  rintro e' w3 ⟨rfl, hb3⟩
  have M3 := HM.out.held hb3
  clear HM hb3 y0 y1 y2 y3 y4 v0 v1 v2 l1 r2 c2 f2
  obtain ⟨⟨y0, y1, y2, y3, y4⟩, _⟩ := M3.kM.five
  obtain ⟨⟨v0, v1, v2⟩, _⟩ := M3.kV.three
  have l1 := M3.kL.cell 1
  have r2 := M3.kB.cell 2
  have c2 := M3.kB.cell 1
  have f2 := M3.kB.frozen 1
  simp at c2
  have M5 := M3.at_ (d : Int)
  obtain ⟨⟨v3, v4, v5⟩, g3, g4, g5⟩ := M5.kV.three
  obtain ⟨⟨z0, z1, z2⟩, x0, x1, x2⟩ := M5.kR.three
  have l0 := M5.kL.cell 1
  simp at l0
  have HM := Lib.hid M5
  clear M3 M5
  go_wp2_with fail
  refine (HI.out _ HM.out.kB HM.out.g).mono ?_
  rintro e' w6 ⟨a6, m6, rfl, hR6, hg6⟩
  have M6 := HM.out.grown hg6 hR6
  clear v3 v4 v5 g3 g4 g5 z0 z1 z2 x0 x1 x2 l0 y0 y1 y2 y3 y4 v0 v1 v2 l1 r2 c2 f2
  have d2 := M6.kV.cell 2
  have h2 := M6.kV.frozen 2
  simp at d2
  have kv := M6.kV.set_ 2 (.slice none 0 0)
  simp at kv
  obtain ⟨⟨v3, v4, v5⟩, _⟩ := kv.three
  have n3 : w.heap.size + 1 ≠ V9 := by have := M6.hM; have := M6.hV; omega
  obtain ⟨⟨z0, z1, z2⟩, x0, x1, x2⟩ := (M6.kR.far (p := ⟨V9, 2, none⟩) n3 (.slice none 0 0)).three
  have H6 := Lib.hid (M6.far9 (.slice none 0 0))
  clear M6 kv HM HI hR6 hg6
  go_wp2_with fail
  refine bodyPost_ret (v := .tuple #[.agg #[.int .u8 bk, .int .i64 bn, .slice none 0 0], .bool false]) (by simp [results, Tryz.results39, go_sem, z0, z1, z2]) rfl ⟨bk, bn, _, _, rfl, bad9 H6.out _ _ _⟩

end Go.Proofs.YtbhekkkijomglaaGreatDoor
