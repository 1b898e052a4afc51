/- The reader's value: the refusals. -/
import Derived.Test.YtbhekkkijomglaaGreatDoorRdE
namespace Go.Proofs.YtbhekkkijomglaaGreatDoor
open Go.RowKit

set_option maxRecDepth 100000 in
set_option maxHeartbeats 4000000 in
theorem value_begin (s : ByteArray) (a m deep item : Nat) (p e : Int) (rb : Nat) (w : World) (hs : s.size ≤ 1048576) (ha : a ≤ s.size) (hm : m ≤ 4096) (hv : Env w) (hk : RdB w rb s a m p e) (kk b d : Nat) (n : Int) (l : List UInt8) (pl : Nat) (hx : nx s.data.toList a = ((kk, b, d, n, l), pl, 0)) (bk : Nat) (bn : Int) (be : Nat) (hb : beginV (kk, b, d, n, l) = (.mk bk bn [], be)) (hbe : be ≠ 0) :
    Calls Tryz.prog 39 #[.agg #[.pointer (some ⟨rb, 0, none⟩), .int .i64 deep], .int .i64 item] w (VBad s rb b be w) := by
  obtain ⟨kL, kR, kB, g0⟩ := lv_all (deep := deep) hk
  have hrl := hk.lt
  have HN := Lib.hid (rnext_ok s a m p e rb (lvW w rb deep) hs ha ((hv.alloc _).alloc _) kB kk b d n l pl hx)
  have HG := Lib.hid (fun W => begin_lit kk b d n l bk bn be hb W)
  have HL := Lib.hid (And.intro kL (And.intro kR (And.intro g0 hrl)))
  have c0 := kL.cell 0
  simp at c0
  have hmw : IntKind.i64.wrap ((m : Int) + 1) = (m : Int) + 1 := IntWalk.i64_in _ ⟨by omega, by omega⟩
  have hbe1 : ((be : Int) != 0) = true := bne_iff_ne.2 (by omega)
  have hbe2 : ((be : Int) == 0) = false := beq_eq_false_iff_ne.2 (by omega)
  clear kL kR kB g0 hk hv hx hrl hb hs ha
  go_enter Tryz.func39, Tryz.ntmps39
  go_wp2_with fail
  refine HN.out.mono ?_
  rintro e' w1 ⟨rfl, hR1, hg1⟩
  have HW := Lib.hid (And.intro hR1 hg1)
  clear hR1 hg1 HN c0
  go_wp2_with fail
  refine (HG.out _).mono ?_
  rintro e' w2 ⟨rfl, hb2⟩
  have M1 := mid_start (bk := bk) (bn := bn) HL.out HW.out.1 HW.out.2 hb2
  have c2 := M1.kB.cell 2
  have f2 := M1.kB.frozen 2
  simp at c2
  have M2 := M1.many ((m : Int) + 1)
  obtain ⟨⟨y0, y1, y2, y3, y4⟩, _⟩ := M2.kM.five
  obtain ⟨⟨v0, v1, v2⟩, _⟩ := M2.kV.three
  have l1 := M2.kL.cell 1
  have r2 := M2.kB.cell 2
  simp at l1 r2
  have HM := Lib.hid M2
  clear hb2 M1 M2 HW HL HG
  generalize w1.heap.size = M at *
  generalize hV9 : w2.heap.size = V9 at *
  go_wp2_with fail
  refine (fail_any kk b d n l be s a ((m : Int) + 1) p e rb _ HM.out.kB).mono ?_
  rintro e' w4 ⟨rfl, hR4, hg4⟩
  have M4 := HM.out.grown hg4 hR4
  obtain ⟨⟨z0, z1, z2⟩, x0, x1, x2⟩ := M4.kR.three
  have H4 := Lib.hid M4
  clear hR4 hg4 M4 HM y0 y1 y2 y3 y4 v0 v1 v2 l1 r2 c2 f2
  go_wp2_with fail
  refine bodyPost_ret (v := .tuple #[.agg #[.int .u8 0, .int .i64 0, .slice none 0 0], .bool false]) (by simp [results, Tryz.results39, go_sem, z0, z1, z2]) rfl ⟨0, 0, _, _, rfl, H4.out.bad _ _ _⟩

set_option maxRecDepth 100000 in
set_option maxHeartbeats 4000000 in
theorem value_item (s : ByteArray) (a m deep item : Nat) (p e : Int) (rb : Nat) (w : World) (hs : s.size ≤ 1048576) (ha : a ≤ s.size) (hm : m ≤ 4096) (hv : Env w) (hk : RdB w rb s a m p e) (kk b d : Nat) (n : Int) (l : List UInt8) (pl : Nat) (hx : nx s.data.toList a = ((kk, b, d, n, l), pl, 0)) (bk : Nat) (bn : Int) (be : Nat) (hb : beginV (kk, b, d, n, l) = (.mk bk bn [], be)) (hbe : be = 0) (hi : 64 < item) :
    Calls Tryz.prog 39 #[.agg #[.pointer (some ⟨rb, 0, none⟩), .int .i64 deep], .int .i64 item] w (VBad s rb b 5 w) := by
  obtain ⟨kL, kR, kB, g0⟩ := lv_all (deep := deep) hk
  have hrl := hk.lt
  have HN := Lib.hid (rnext_ok s a m p e rb (lvW w rb deep) hs ha ((hv.alloc _).alloc _) kB kk b d n l pl hx)
  have HG := Lib.hid (fun W => begin_lit kk b d n l bk bn be hb W)
  have HL := Lib.hid (And.intro kL (And.intro kR (And.intro g0 hrl)))
  have c0 := kL.cell 0
  simp at c0
  have hmw : IntKind.i64.wrap ((m : Int) + 1) = (m : Int) + 1 := IntWalk.i64_in _ ⟨by omega, by omega⟩
  subst hbe
  have hi1 : (64 : Int) < (item : Int) := by omega
  clear kL kR kB g0 hk hv hx hrl hb hs ha
  go_enter Tryz.func39, Tryz.ntmps39
  go_wp2_with fail
  refine HN.out.mono ?_
  rintro e' w1 ⟨rfl, hR1, hg1⟩
  have HW := Lib.hid (And.intro hR1 hg1)
  clear hR1 hg1 HN c0
  go_wp2_with fail
  refine (HG.out _).mono ?_
  rintro e' w2 ⟨rfl, hb2⟩
  have M1 := mid_start (bk := bk) (bn := bn) HL.out HW.out.1 HW.out.2 hb2
  have c2 := M1.kB.cell 2
  have f2 := M1.kB.frozen 2
  simp at c2
  have M2 := M1.many ((m : Int) + 1)
  obtain ⟨⟨y0, y1, y2, y3, y4⟩, _⟩ := M2.kM.five
  obtain ⟨⟨v0, v1, v2⟩, _⟩ := M2.kV.three
  have l1 := M2.kL.cell 1
  have r2 := M2.kB.cell 2
  simp at l1 r2
  have HM := Lib.hid M2
  clear hb2 M1 M2 HW HL HG
  generalize w1.heap.size = M at *
  generalize hV9 : w2.heap.size = V9 at *
  go_wp2_with fail
  refine (fail_any kk b d n l 5 s a ((m : Int) + 1) p e rb _ HM.out.kB).mono ?_
  rintro e' w4 ⟨rfl, hR4, hg4⟩
  have M4 := HM.out.grown hg4 hR4
  obtain ⟨⟨z0, z1, z2⟩, x0, x1, x2⟩ := M4.kR.three
  have H4 := Lib.hid M4
  clear hR4 hg4 M4 HM y0 y1 y2 y3 y4 v0 v1 v2 l1 r2 c2 f2
  go_wp2_with fail
  refine bodyPost_ret (v := .tuple #[.agg #[.int .u8 0, .int .i64 0, .slice none 0 0], .bool false]) (by simp [results, Tryz.results39, go_sem, z0, z1, z2]) rfl ⟨0, 0, _, _, rfl, H4.out.bad _ _ _⟩

set_option maxRecDepth 100000 in
set_option maxHeartbeats 4000000 in
theorem value_deep (s : ByteArray) (a m deep item : Nat) (p e : Int) (rb : Nat) (w : World) (hs : s.size ≤ 1048576) (ha : a ≤ s.size) (hm : m ≤ 4096) (hv : Env w) (hk : RdB w rb s a m p e) (kk b d : Nat) (n : Int) (l : List UInt8) (pl : Nat) (hx : nx s.data.toList a = ((kk, b, d, n, l), pl, 0)) (bk : Nat) (bn : Int) (be : Nat) (hb : beginV (kk, b, d, n, l) = (.mk bk bn [], be)) (hbe : be = 0) (hi : ¬ 64 < item) (hd : 128 < deep) :
    Calls Tryz.prog 39 #[.agg #[.pointer (some ⟨rb, 0, none⟩), .int .i64 deep], .int .i64 item] w (VBad s rb b 9 w) := by
  obtain ⟨kL, kR, kB, g0⟩ := lv_all (deep := deep) hk
  have hrl := hk.lt
  have HN := Lib.hid (rnext_ok s a m p e rb (lvW w rb deep) hs ha ((hv.alloc _).alloc _) kB kk b d n l pl hx)
  have HG := Lib.hid (fun W => begin_lit kk b d n l bk bn be hb W)
  have HL := Lib.hid (And.intro kL (And.intro kR (And.intro g0 hrl)))
  have c0 := kL.cell 0
  simp at c0
  have hmw : IntKind.i64.wrap ((m : Int) + 1) = (m : Int) + 1 := IntWalk.i64_in _ ⟨by omega, by omega⟩
  subst hbe
  have hi1 : ¬ (64 : Int) < (item : Int) := by omega
  have hd1 : (128 : Int) < (deep : Int) := by omega
  clear kL kR kB g0 hk hv hx hrl hb hs ha
  go_enter Tryz.func39, Tryz.ntmps39
  go_wp2_with fail
  refine HN.out.mono ?_
  rintro e' w1 ⟨rfl, hR1, hg1⟩
  have HW := Lib.hid (And.intro hR1 hg1)
  clear hR1 hg1 HN c0
  go_wp2_with fail
  refine (HG.out _).mono ?_
  rintro e' w2 ⟨rfl, hb2⟩
  have M1 := mid_start (bk := bk) (bn := bn) HL.out HW.out.1 HW.out.2 hb2
  have c2 := M1.kB.cell 2
  have f2 := M1.kB.frozen 2
  simp at c2
  have M2 := M1.many ((m : Int) + 1)
  obtain ⟨⟨y0, y1, y2, y3, y4⟩, _⟩ := M2.kM.five
  obtain ⟨⟨v0, v1, v2⟩, _⟩ := M2.kV.three
  have l1 := M2.kL.cell 1
  have r2 := M2.kB.cell 2
  simp at l1 r2
  have HM := Lib.hid M2
  clear hb2 M1 M2 HW HL HG
  generalize w1.heap.size = M at *
  generalize hV9 : w2.heap.size = V9 at *
  go_wp2_with fail
  refine (fail_any kk b d n l 9 s a ((m : Int) + 1) p e rb _ HM.out.kB).mono ?_
  rintro e' w4 ⟨rfl, hR4, hg4⟩
  have M4 := HM.out.grown hg4 hR4
  obtain ⟨⟨z0, z1, z2⟩, x0, x1, x2⟩ := M4.kR.three
  have H4 := Lib.hid M4
  clear hR4 hg4 M4 HM y0 y1 y2 y3 y4 v0 v1 v2 l1 r2 c2 f2
  go_wp2_with fail
  refine bodyPost_ret (v := .tuple #[.agg #[.int .u8 0, .int .i64 0, .slice none 0 0], .bool false]) (by simp [results, Tryz.results39, go_sem, z0, z1, z2]) rfl ⟨0, 0, _, _, rfl, H4.out.bad _ _ _⟩

set_option maxRecDepth 100000 in
set_option maxHeartbeats 4000000 in
theorem value_many (s : ByteArray) (a m deep item : Nat) (p e : Int) (rb : Nat) (w : World) (hs : s.size ≤ 1048576) (ha : a ≤ s.size) (hm : m ≤ 4096) (hv : Env w) (hk : RdB w rb s a m p e) (kk b d : Nat) (n : Int) (l : List UInt8) (pl : Nat) (hx : nx s.data.toList a = ((kk, b, d, n, l), pl, 0)) (bk : Nat) (bn : Int) (be : Nat) (hb : beginV (kk, b, d, n, l) = (.mk bk bn [], be)) (hbe : be = 0) (hi : ¬ 64 < item) (hd : ¬ 128 < deep) (hmm : 4096 < m + 1) :
    Calls Tryz.prog 39 #[.agg #[.pointer (some ⟨rb, 0, none⟩), .int .i64 deep], .int .i64 item] w (VBad s rb b 5 w) := by
  obtain ⟨kL, kR, kB, g0⟩ := lv_all (deep := deep) hk
  have hrl := hk.lt
  have HN := Lib.hid (rnext_ok s a m p e rb (lvW w rb deep) hs ha ((hv.alloc _).alloc _) kB kk b d n l pl hx)
  have HG := Lib.hid (fun W => begin_lit kk b d n l bk bn be hb W)
  have HL := Lib.hid (And.intro kL (And.intro kR (And.intro g0 hrl)))
  have c0 := kL.cell 0
  simp at c0
  have hmw : IntKind.i64.wrap ((m : Int) + 1) = (m : Int) + 1 := IntWalk.i64_in _ ⟨by omega, by omega⟩
  subst hbe
  have hi1 : ¬ (64 : Int) < (item : Int) := by omega
  have hd1 : ¬ (128 : Int) < (deep : Int) := by omega
  have hm1 : (4096 : Int) < (m : Int) + 1 := by omega
  clear kL kR kB g0 hk hv hx hrl hb hs ha
  go_enter Tryz.func39, Tryz.ntmps39
  go_wp2_with fail
  refine HN.out.mono ?_
  rintro e' w1 ⟨rfl, hR1, hg1⟩
  have HW := Lib.hid (And.intro hR1 hg1)
  clear hR1 hg1 HN c0
  go_wp2_with fail
  refine (HG.out _).mono ?_
  rintro e' w2 ⟨rfl, hb2⟩
  have M1 := mid_start (bk := bk) (bn := bn) HL.out HW.out.1 HW.out.2 hb2
  have c2 := M1.kB.cell 2
  have f2 := M1.kB.frozen 2
  simp at c2
  have M2 := M1.many ((m : Int) + 1)
  obtain ⟨⟨y0, y1, y2, y3, y4⟩, _⟩ := M2.kM.five
  obtain ⟨⟨v0, v1, v2⟩, _⟩ := M2.kV.three
  have l1 := M2.kL.cell 1
  have r2 := M2.kB.cell 2
  simp at l1 r2
  have HM := Lib.hid M2
  clear hb2 M1 M2 HW HL HG
  generalize w1.heap.size = M at *
  generalize hV9 : w2.heap.size = V9 at *
  go_wp2_with fail
  refine (fail_any kk b d n l 5 s a ((m : Int) + 1) p e rb _ HM.out.kB).mono ?_
  rintro e' w4 ⟨rfl, hR4, hg4⟩
  have M4 := HM.out.grown hg4 hR4
  obtain ⟨⟨z0, z1, z2⟩, x0, x1, x2⟩ := M4.kR.three
  have H4 := Lib.hid M4
  clear hR4 hg4 M4 HM y0 y1 y2 y3 y4 v0 v1 v2 l1 r2 c2 f2
  go_wp2_with fail
  refine bodyPost_ret (v := .tuple #[.agg #[.int .u8 0, .int .i64 0, .slice none 0 0], .bool false]) (by simp [results, Tryz.results39, go_sem, z0, z1, z2]) rfl ⟨0, 0, _, _, rfl, H4.out.bad _ _ _⟩

theorem check_lit (bk : Nat) (bn : Int) (W : World) : Calls Tryz.prog 30 #[.agg #[.int .u8 bk, .int .i64 bn, .slice none 0 0]] W fun e w' => e = .returned (.int .i64 ((V.mk bk bn []).check : Nat)) ∧ Below W.heap.size W w' :=
  vcheck_any (.mk bk bn []) none 0 W (.emp _) (by rw [V.size, V.sizes]; decide)
set_option maxRecDepth 100000 in
set_option maxHeartbeats 4000000 in
theorem value_check (s : ByteArray) (a m deep item : Nat) (p e : Int) (rb : Nat) (w : World) (hs : s.size ≤ 1048576) (ha : a ≤ s.size) (hm : m ≤ 4096) (hv : Env w) (hk : RdB w rb s a m p e) (kk b d : Nat) (n : Int) (l : List UInt8) (pl : Nat) (hx : nx s.data.toList a = ((kk, b, d, n, l), pl, 0)) (bk : Nat) (bn : Int) (be : Nat) (hb : beginV (kk, b, d, n, l) = (.mk bk bn [], be)) (hbe : be = 0) (hi : ¬ 64 < item) (hd : ¬ 128 < deep) (hmm : ¬ 4096 < m + 1) (hce : (V.mk bk bn []).check ≠ 0) :
    Calls Tryz.prog 39 #[.agg #[.pointer (some ⟨rb, 0, none⟩), .int .i64 deep], .int .i64 item] w (VBad s rb b (V.mk bk bn []).check w) := by
  obtain ⟨kL, kR, kB, g0⟩ := lv_all (deep := deep) hk
  have hrl := hk.lt
  have HN := Lib.hid (rnext_ok s a m p e rb (lvW w rb deep) hs ha ((hv.alloc _).alloc _) kB kk b d n l pl hx)
  have HG := Lib.hid (fun W => begin_lit kk b d n l bk bn be hb W)
  have HL := Lib.hid (And.intro kL (And.intro kR (And.intro g0 hrl)))
  have c0 := kL.cell 0
  simp at c0
  have hmw : IntKind.i64.wrap ((m : Int) + 1) = (m : Int) + 1 := IntWalk.i64_in _ ⟨by omega, by omega⟩
  subst hbe
  have hi1 : ¬ (64 : Int) < (item : Int) := by omega
  have hd1 : ¬ (128 : Int) < (deep : Int) := by omega
  have hm1 : ¬ (4096 : Int) < (m : Int) + 1 := by omega
  have HC := Lib.hid (fun W => check_lit bk bn W)
  generalize (V.mk bk bn []).check = ce at *
  have hce1 : ((ce : Int) != 0) = true := bne_iff_ne.2 (by omega)
  have hce2 : ((ce : Int) == 0) = false := beq_eq_false_iff_ne.2 (by omega)
  clear kL kR kB g0 hk hv hx hrl hb hs ha
  go_enter Tryz.func39, Tryz.ntmps39
  go_wp2_with fail
  refine HN.out.mono ?_
  rintro e' w1 ⟨rfl, hR1, hg1⟩
  have HW := Lib.hid (And.intro hR1 hg1)
  clear hR1 hg1 HN c0
  go_wp2_with fail
  refine (HG.out _).mono ?_
  rintro e' w2 ⟨rfl, hb2⟩
  have M1 := mid_start (bk := bk) (bn := bn) HL.out HW.out.1 HW.out.2 hb2
  have c2 := M1.kB.cell 2
  have f2 := M1.kB.frozen 2
  simp at c2
  have M2 := M1.many ((m : Int) + 1)
  obtain ⟨⟨y0, y1, y2, y3, y4⟩, _⟩ := M2.kM.five
  obtain ⟨⟨v0, v1, v2⟩, _⟩ := M2.kV.three
  have l1 := M2.kL.cell 1
  have r2 := M2.kB.cell 2
  simp at l1 r2
  have HM := Lib.hid M2
  clear hb2 M1 M2 HW HL HG
  generalize w1.heap.size = M at *
  generalize hV9 : w2.heap.size = V9 at *
  go_wp2_with fail
  refine (HC.out _).mono ?_
  rintro e' w3 ⟨rfl, hb3⟩
  have M3 := HM.out.held hb3
  clear HM hb3 y0 y1 y2 y3 y4 v0 v1 v2 l1 r2 c2 f2
  obtain ⟨⟨y0, y1, y2, y3, y4⟩, _⟩ := M3.kM.five
  obtain ⟨⟨v0, v1, v2⟩, _⟩ := M3.kV.three
  have l1 := M3.kL.cell 1
  have r2 := M3.kB.cell 2
  have c2 := trivial
  have f2 := trivial
  have HM := Lib.hid M3
  clear M3
  go_wp2_with fail
  refine (fail_any kk b d n l ce s a ((m : Int) + 1) p e rb _ HM.out.kB).mono ?_
  rintro e' w4 ⟨rfl, hR4, hg4⟩
  have M4 := HM.out.grown hg4 hR4
  obtain ⟨⟨z0, z1, z2⟩, x0, x1, x2⟩ := M4.kR.three
  have H4 := Lib.hid M4
  clear hR4 hg4 M4 HM y0 y1 y2 y3 y4 v0 v1 v2 l1 r2 c2 f2
  go_wp2_with fail
  refine bodyPost_ret (v := .tuple #[.agg #[.int .u8 0, .int .i64 0, .slice none 0 0], .bool false]) (by simp [results, Tryz.results39, go_sem, z0, z1, z2]) rfl ⟨0, 0, _, _, rfl, H4.out.bad _ _ _⟩

end Go.Proofs.YtbhekkkijomglaaGreatDoor
