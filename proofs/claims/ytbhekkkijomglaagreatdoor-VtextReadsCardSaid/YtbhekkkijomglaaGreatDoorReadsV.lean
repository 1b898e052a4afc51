/- The walk of the statement VtextReads. -/
import Derived.Test.YtbhekkkijomglaaGreatDoorRtIZ
import Derived.Test.YtbhekkkijomglaaGreatDoorRtKZ
import Derived.Test.YtbhekkkijomglaaGreatDoorAwB
namespace Go.Proofs.YtbhekkkijomglaaGreatDoor
open Go.RowKit

set_option maxRecDepth 100000 in
set_option maxHeartbeats 4000000 in
theorem reads_wide (s : ByteArray) (i : Int) (w : World) (hv : Env w) (h20 : 20000 < s.size) :
    Calls Tryz.prog 4 #[.string s, .int .i64 i] w fun e w' => e = .returned (.bool true) ∧ Below w.heap.size w w' := by
  have h1 : (20000 : Int) < (s.size : Int) := by omega
  have HA := Lib.hid (fun W hW => awake_any W hW)
  clear h20
  go_enter Tryz.func4, Tryz.ntmps4
  go_wp2_with fail
  refine (HA.out _ hv).mono ?_
  rintro e w1 ⟨rfl, hb1⟩
  have HX := Lib.hid hb1
  clear hb1
  go_wp2_with fail
  go_ret
  exact ⟨rfl, HX.out⟩

/-- What holds at the loop's head: what the document tells, below B. -/
structure Wt (w : World) (B : Nat) (W : World) (x y : V) (A1 A2 : Option Addr) (c1 c2 g1 g2 : Nat) : Prop where
  e0 : Env w
  b : Below w.heap.size w W
  wB : w.heap.size ≤ B
  bB : B ≤ W.heap.size
  h1 : g1 < B
  h2 : g2 < B
  k1 : Blk W g1 24 #[.int .u8 x.k, .int .i64 x.n, .slice A1 x.l.length c1]
  k2 : Blk W g2 24 #[.int .u8 y.k, .int .i64 y.n, .slice A2 y.l.length c2]
  v1 : Vsl W B A1 x.l
  v2 : Vsl W B A2 y.l
theorem Wt.to {w W W' : World} {B : Nat} {x y : V} {A1 A2 : Option Addr} {c1 c2 g1 g2 : Nat} (h : Wt w B W x y A1 A2 c1 c2 g1 g2) (hb : Below B W W') : Wt w B W' x y A1 A2 c1 c2 g1 g2 :=
  ⟨h.e0, h.b.trans (hb.mono h.wB), h.wB, Nat.le_trans h.bB hb.size, h.h1, h.h2, h.k1.below hb h.h1, h.k2.below hb h.h2, h.v1.held hb, h.v2.held hb⟩
theorem Wt.e {w W : World} {B : Nat} {x y : V} {A1 A2 : Option Addr} {c1 c2 g1 g2 : Nat} (h : Wt w B W x y A1 A2 c1 c2 g1 g2) : Env W := h.e0.step h.b
theorem Wt.held {w W W' : World} {B : Nat} {x y : V} {A1 A2 : Option Addr} {c1 c2 g1 g2 : Nat} (h : Wt w B W x y A1 A2 c1 c2 g1 g2) (hb : Below W.heap.size W W') : Wt w B W' x y A1 A2 c1 c2 g1 g2 := h.to (hb.mono h.bB)

set_option maxRecDepth 100000 in
set_option maxHeartbeats 8000000 in
/-- What is told of both: a value, or the zero value. -/
theorem reads_gen (s : ByteArray) (i : Int) (w : World) (hv : Env w) (h20 : s.size ≤ 20000) (x y : V) (p q nx_ wg ex ey : Int) (hx : x.size ≤ 1000000) (hy : y.size ≤ 1000000)
    (hR : ∀ W, Env W → Calls Tryz.prog 17 #[.string s] W fun e w' => ∃ A c, e = .returned (.tuple #[.agg #[.int .u8 x.k, .int .i64 x.n, .slice A x.l.length c], .int .i64 p, .int .i64 ex]) ∧ Below W.heap.size W w' ∧ Vsp w' (Fr W.heap.size w') A x.l)
    (hP : ∀ W, Env W → Calls Tryz.prog 18 #[.string s, .int .i64 i] W fun e w' => ∃ A c, e = .returned (.tuple #[.agg #[.int .u8 y.k, .int .i64 y.n, .slice A y.l.length c], .int .i64 nx_, .int .i64 wg, .int .i64 ey]) ∧ Below W.heap.size W w' ∧ Vsp w' (Fr W.heap.size w') A y.l)
    (hR2 : ∀ W, Calls Tryz.prog 15 #[.string s] W fun e w' => ∃ A c, e = .returned (.tuple #[.agg #[.int .u8 x.k, .int .i64 x.n, .slice A x.l.length c], .int .i64 p, .int .i64 ex]) ∧ Below W.heap.size W w' ∧ Vsp w' (Fr W.heap.size w') A x.l)
    (hP2 : ∀ W, Calls Tryz.prog 16 #[.string s, .int .i64 i] W fun e w' => ∃ A c, e = .returned (.tuple #[.agg #[.int .u8 y.k, .int .i64 y.n, .slice A y.l.length c], .int .i64 nx_, .int .i64 wg, .int .i64 ey]) ∧ Below W.heap.size W w' ∧ Vsp w' (Fr W.heap.size w') A y.l) :
    Calls Tryz.prog 4 #[.string s, .int .i64 i] w fun e w' => e = .returned (.bool true) ∧ Below w.heap.size w w' := by
  have h1 : ¬ (20000 : Int) < (s.size : Int) := by omega
  have HA := Lib.hid (fun W hW => awake_any W hW)
  have HR := Lib.hid hR; have HP := Lib.hid hP; have HR2 := Lib.hid hR2; have HP2 := Lib.hid hP2
  clear hR hP hR2 hP2 h20
  go_enter Tryz.func4, Tryz.ntmps4
  go_wp2_with fail
  refine (HR2.out _).mono ?_
  rintro e w1 ⟨A1, c1, rfl, hb1, hV1⟩
  go_wp2_with fail
  refine (HP2.out _).mono ?_
  rintro e w2 ⟨A2, c2, rfl, hb2, hV2⟩
  have hbA := (Below.refl w1.heap.size w1).alloc (Nat.le_refl _) (.cells #[.int .u8 x.k, .int .i64 x.n, .slice A1 x.l.length c1] 24)
  have hbB := (Below.refl w2.heap.size w2).alloc (Nat.le_refl _) (.cells #[.int .u8 y.k, .int .i64 y.n, .slice A2 y.l.length c2] 24)
  have hs2 := hb2.size
  have HW : Hid (Wt w (w2.alloc (.cells #[.int .u8 y.k, .int .i64 y.n, .slice A2 y.l.length c2] 24)).heap.size (w2.alloc (.cells #[.int .u8 y.k, .int .i64 y.n, .slice A2 y.l.length c2] 24)) x y A1 A2 c1 c2 w1.heap.size w2.heap.size) := by
    have q1 := hb1.size
    have q2 := hbA.size
    refine ⟨hv, ((hb1.trans (hbA.mono q1)).trans (hb2.mono (Nat.le_trans q1 q2))).trans (hbB.mono (Nat.le_trans q1 (Nat.le_trans q2 hs2))), ?_, Nat.le_refl _, ?_, ?_, ?_, Blk.new _ _ _, ?_, ?_⟩
    · have := hbB.size; omega
    · simp at hs2 ⊢; omega
    · simp
    · exact ((Blk.new w1 24 #[.int .u8 x.k, .int .i64 x.n, .slice A1 x.l.length c1]).below hb2 (by simp)).alloc _
    · exact (((hV1.fresh_vsl.held hbA).more q2).held hb2 |>.more hs2 |>.held hbB).more hbB.size
    · exact (hV2.fresh_vsl.held hbB).more hbB.size
  clear hbA hbB hs2 hb1 hb2 hV1 hV2
  generalize (w2.alloc (.cells #[.int .u8 y.k, .int .i64 y.n, .slice A2 y.l.length c2] 24)).heap.size = B at *
  go_wp2_with fail
  go_loopw [12] (fun r wr0 => ∃ j : Nat, j ≤ 2 ∧ r = .int .i64 j ∧ Hid (Wt w B wr0 x y A1 A2 c1 c2 w1.heap.size w2.heap.size)) (fun r _ => 2 - (intOf r).toNat)
  case atStart => exact ⟨0, by omega, rfl, HW.out⟩
  case round =>
    obtain ⟨j, hj, rfl, HW2⟩ := hrel
    clear HW
    by_cases hlt : j < 2
    · have j1 : (j : Int) < 2 := by omega
      go_wp2_with fail
      refine (HR.out _ HW2.out.e).mono ?_
      rintro e w3 ⟨A3, c3, rfl, hb3, hV3⟩
      have hq3 := HW2.out.bB
      have hbX := (Below.refl w3.heap.size w3).alloc (Nat.le_refl _) (.cells #[.int .u8 x.k, .int .i64 x.n, .slice A3 x.l.length c3] 24)
      have hW3 := (HW2.out.held hb3).held hbX
      have hk3 := Blk.new w3 24 #[.int .u8 x.k, .int .i64 x.n, .slice A3 x.l.length c3]
      have hV3' : Vsp (w3.alloc (.cells #[.int .u8 x.k, .int .i64 x.n, .slice A3 x.l.length c3] 24)) (Fr B (w3.alloc (.cells #[.int .u8 x.k, .int .i64 x.n, .slice A3 x.l.length c3] 24))) A3 x.l := hV3.fresh_keep (only_alloc (only_refl w3 none) (.cells #[.int .u8 x.k, .int .i64 x.n, .slice A3 x.l.length c3] 24)) hq3 (fun g q => by cases q)
      have H3 := Lib.hid (And.intro hW3 (And.intro hk3 (And.intro hV3' (show B ≤ w3.heap.size from Nat.le_trans hq3 hb3.size))))
      have HB3 : Hid (B ≤ w3.heap.size) := Nat.le_trans hq3 hb3.size
      clear hb3 hV3 hq3 hbX hW3 hk3 hV3' HW2
      go_wp2_with fail
      refine (HP.out _ H3.out.1.e).mono ?_
      rintro e w4 ⟨A4, c4, rfl, hb4, hV4⟩
      have hbY := (Below.refl w4.heap.size w4).alloc (Nat.le_refl _) (.cells #[.int .u8 y.k, .int .i64 y.n, .slice A4 y.l.length c4] 24)
      have hW4 := (H3.out.1.held hb4).held hbY
      have hk3 := (H3.out.2.1.below hb4 H3.out.2.1.lt).alloc (.cells #[.int .u8 y.k, .int .i64 y.n, .slice A4 y.l.length c4] 24)
      have hk4 := Blk.new w4 24 #[.int .u8 y.k, .int .i64 y.n, .slice A4 y.l.length c4]
      have hV3 := (H3.out.2.2.1.keep (w' := w4) (S' := fun k => B ≤ k ∧ k < (w3.alloc (.cells #[.int .u8 x.k, .int .i64 x.n, .slice A3 x.l.length c3] 24)).heap.size) (fun k hk => hk) (fun k hk => hb4.block k hk.2)).keep (w' := w4.alloc (.cells #[.int .u8 y.k, .int .i64 y.n, .slice A4 y.l.length c4] 24)) (S' := fun k => B ≤ k ∧ k < (w3.alloc (.cells #[.int .u8 x.k, .int .i64 x.n, .slice A3 x.l.length c3] 24)).heap.size) (fun k hk => hk) (fun k hk => hbY.block k (Nat.lt_of_lt_of_le hk.2 hb4.size))
      have hV4' := hV4.keep (w' := w4.alloc (.cells #[.int .u8 y.k, .int .i64 y.n, .slice A4 y.l.length c4] 24)) (S' := fun k => (w3.alloc (.cells #[.int .u8 x.k, .int .i64 x.n, .slice A3 x.l.length c3] 24)).heap.size ≤ k ∧ k < w4.heap.size) (fun k hk => hk) (fun k hk => hbY.block k hk.2)
      have H4 := Lib.hid (And.intro hW4 (And.intro hk3 (And.intro hk4 (And.intro hV3 (And.intro hV4' (And.intro H3.out.2.2.2 hb4.size))))))
      obtain ⟨⟨a0, a1, a2⟩, _⟩ := hk3.three
      obtain ⟨⟨b0, b1, b2⟩, _⟩ := hk4.three
      obtain ⟨⟨d0, d1, d2⟩, _⟩ := hW4.k1.three
      obtain ⟨⟨g0, g1, g2⟩, _⟩ := hW4.k2.three
      have hS1 := vsame_eq x A3 A1 c3 c1 (w4.alloc (.cells #[.int .u8 y.k, .int .i64 y.n, .slice A4 y.l.length c4] 24)) hx (hV3.vsl (fun k hk => Nat.lt_of_lt_of_le hk.2 (Nat.le_trans hb4.size hbY.size))) (hW4.v1.more hW4.bB)
      change Calls Tryz.prog 19 #[.agg #[.int .u8 x.k, .int .i64 x.n, .slice A3 x.l.length c3], .agg #[.int .u8 x.k, .int .i64 x.n, .slice A1 x.l.length c1]] _ _ at hS1
      have HS1 := Lib.hid hS1
      clear hb4 hV4 hbY hW4 hk3 hk4 hV3 hV4' hS1 H3
      go_wp2_with fail
      refine HS1.out.mono ?_
      rintro e w5 ⟨rfl, hb5⟩
      have hW5 := H4.out.1.held hb5
      have hk3 := H4.out.2.1.below hb5 H4.out.2.1.lt
      have hk4 := H4.out.2.2.1.below hb5 H4.out.2.2.1.lt
      have hV3 := H4.out.2.2.2.1.keep (w' := w5) (S' := fun k => B ≤ k ∧ k < (w3.alloc (.cells #[.int .u8 x.k, .int .i64 x.n, .slice A3 x.l.length c3] 24)).heap.size) (fun k hk => hk) (fun k hk => hb5.block k (Nat.lt_of_lt_of_le hk.2 (by have h := H4.out.2.2.2.2.2.2; simp at h ⊢; omega)))
      have hV4 := H4.out.2.2.2.2.1.keep (w' := w5) (S' := fun k => (w3.alloc (.cells #[.int .u8 x.k, .int .i64 x.n, .slice A3 x.l.length c3] 24)).heap.size ≤ k ∧ k < w4.heap.size) (fun k hk => hk) (fun k hk => hb5.block k (Nat.lt_of_lt_of_le hk.2 (by simp)))
      clear a0 a1 a2 b0 b1 b2 d0 d1 d2 g0 g1 g2
      obtain ⟨⟨a0, a1, a2⟩, _⟩ := hk3.three
      obtain ⟨⟨b0, b1, b2⟩, _⟩ := hk4.three
      obtain ⟨⟨d0, d1, d2⟩, _⟩ := hW5.k1.three
      obtain ⟨⟨g0, g1, g2⟩, _⟩ := hW5.k2.three
      have hz5 : w4.heap.size ≤ w5.heap.size := Nat.le_trans (by simp) hb5.size
      have hS2 := vsame_eq y A4 A2 c4 c2 w5 hy (hV4.vsl (fun k hk => Nat.lt_of_lt_of_le hk.2 hz5)) (hW5.v2.more hW5.bB)
      change Calls Tryz.prog 19 #[.agg #[.int .u8 y.k, .int .i64 y.n, .slice A4 y.l.length c4], .agg #[.int .u8 y.k, .int .i64 y.n, .slice A2 y.l.length c2]] _ _ at hS2
      have HS2 := Lib.hid hS2
      have H5 := Lib.hid (And.intro hW5 (And.intro hk3 (And.intro hk4 (And.intro hV3 (And.intro hV4 (And.intro H4.out.2.2.2.2.2.1 (And.intro H4.out.2.2.2.2.2.2 hz5)))))))
      clear hb5 hW5 hk3 hk4 hV3 hV4 hS2 H4 hz5
      go_wp2_with fail
      refine HS2.out.mono ?_
      rintro e w6 ⟨rfl, hb6⟩
      have hW6 := H5.out.1.held hb6
      have hk3 := H5.out.2.1.below hb6 H5.out.2.1.lt
      have hk4 := H5.out.2.2.1.below hb6 H5.out.2.2.1.lt
      have hV3 := H5.out.2.2.2.1.keep (w' := w6) (S' := fun k => B ≤ k ∧ k < (w3.alloc (.cells #[.int .u8 x.k, .int .i64 x.n, .slice A3 x.l.length c3] 24)).heap.size) (fun k hk => hk) (fun k hk => hb6.block k (Nat.lt_of_lt_of_le hk.2 (Nat.le_trans H5.out.2.2.2.2.2.2.1 H5.out.2.2.2.2.2.2.2)))
      have hV4 := H5.out.2.2.2.2.1.keep (w' := w6) (S' := fun k => (w3.alloc (.cells #[.int .u8 x.k, .int .i64 x.n, .slice A3 x.l.length c3] 24)).heap.size ≤ k ∧ k < w4.heap.size) (fun k hk => hk) (fun k hk => hb6.block k (Nat.lt_of_lt_of_le hk.2 (H5.out.2.2.2.2.2.2.2)))
      clear a0 a1 a2 b0 b1 b2 d0 d1 d2 g0 g1 g2
      obtain ⟨⟨a0, a1, a2⟩, _⟩ := hk3.three
      obtain ⟨⟨b0, b1, b2⟩, _⟩ := hk4.three
      obtain ⟨⟨d0, d1, d2⟩, _⟩ := hW6.k1.three
      obtain ⟨⟨g0, g1, g2⟩, _⟩ := hW6.k2.three
      have hz6 : w4.heap.size ≤ w6.heap.size := Nat.le_trans (H5.out.2.2.2.2.2.2.2) hb6.size
      have hlx : x.l.length ≤ 1000000 := by have h1 := len_sizes x.l; have h2 : x.size = 1 + V.sizes x.l := by cases x; rfl
                                            omega
      have hly : y.l.length ≤ 1000000 := by have h1 := len_sizes y.l; have h2 : y.size = 1 + V.sizes y.l := by cases y; rfl
                                            omega
      have HP1 := Lib.hid (spoil_any x A3 c3 w6 _ (fun k hk => Nat.lt_of_lt_of_le hk.2 (Nat.le_trans H5.out.2.2.2.2.2.2.1 hz6)) hlx hV3)
      have H6 := Lib.hid (And.intro hW6 (And.intro hk4 (And.intro hV4 (And.intro H5.out.2.2.2.2.2.2.1 hz6))))
      clear hb6 hW6 hk3 hk4 hV3 hV4 H5 hz6 HS2
      go_wp2_with fail
      refine HP1.out.mono ?_
      rintro e w7 ⟨rfl, row, hg7, hr7⟩
      have hW7 := H6.out.1.to (Below.grown (Below.refl B w6) hg7 H6.out.1.bB (fun j h => (hr7 j h).1))
      have hk4 := H6.out.2.1.grown hg7 (fun h => by have hq := (hr7 _ h.symm).2; have hq2 := H6.out.2.2.2.1; simp at hq hq2; omega)
      have hV4 := H6.out.2.2.1.keep (w' := w7) (S' := fun k => (w3.alloc (.cells #[.int .u8 x.k, .int .i64 x.n, .slice A3 x.l.length c3] 24)).heap.size ≤ k ∧ k < w4.heap.size) (fun k hk => hk) (fun k hk => hg7.block k (Nat.lt_of_lt_of_le hk.2 H6.out.2.2.2.2) (fun h => by have hq := (hr7 _ h.symm).2; have := hk.1; omega))
      have hz7 : w4.heap.size ≤ w7.heap.size := Nat.le_trans H6.out.2.2.2.2 hg7.size
      clear a0 a1 a2 b0 b1 b2 d0 d1 d2 g0 g1 g2
      obtain ⟨⟨b0, b1, b2⟩, _⟩ := hk4.three
      have HP2 := Lib.hid (spoil_any y A4 c4 w7 _ (fun k hk => Nat.lt_of_lt_of_le hk.2 hz7) hly hV4)
      have H7 := Lib.hid (And.intro hW7 (show B ≤ (w3.alloc (.cells #[.int .u8 x.k, .int .i64 x.n, .slice A3 x.l.length c3] 24)).heap.size from by have := HB3.out; simp; omega))
      clear hW7 hk4 hV4 hz7 hg7 hr7 H6 HP1
      go_wp2_with fail
      refine HP2.out.mono ?_
      rintro e w8 ⟨rfl, row8, hg8, hr8⟩
      have H8 := Lib.hid (H7.out.1.to (Below.grown (Below.refl B w7) hg8 H7.out.1.bB (fun j h => Nat.le_trans H7.out.2 (hr8 j h).1)))
      clear hg8 hr8 b0 b1 b2
      go_wp2_with fail
      go_roundw
      case rel => exact ⟨j + 1, by omega, by go_num, H8.out⟩
      case measure => simp [intOf]; omega
    · have j1 : ¬ (j : Int) < 2 := by omega
      go_wp2_with fail
      refine (HA.out _ HW2.out.e).mono ?_
      rintro e w9 ⟨rfl, hb9⟩
      have HX := Lib.hid (HW2.out.held hb9).b
      clear hb9
      go_wp2_with fail
      go_ret
      exact ⟨rfl, HX.out⟩

def rX (R : PR V) : V := match R with | .ok v _ _ => v | .bad _ _ => .mk 0 0 []
def rP (R : PR V) : Int := match R with | .ok _ _ _ => 0 | .bad p _ => p
def rE (R : PR V) : Int := match R with | .ok _ _ _ => 0 | .bad _ e => e
def rN (R : PR V) : Int := match R with | .ok _ a _ => a | .bad _ _ => 0
theorem rpost_gen {R : PR V} {W w' : World} {en : Ending} (h : RPost R W en w') : ∃ A c, en = .returned (.tuple #[.agg #[.int .u8 (rX R).k, .int .i64 (rX R).n, .slice A (rX R).l.length c], .int .i64 (rP R), .int .i64 (rE R)]) ∧ Below W.heap.size W w' ∧ Vsp w' (Fr W.heap.size w') A (rX R).l := by
  cases R with
  | ok v a m => exact h
  | bad p e => exact ⟨none, 0, h.1, h.2, .emp _⟩
theorem ppost_gen {R : PR V} {W w' : World} {en : Ending} (h : PPost R W en w') : ∃ A c, en = .returned (.tuple #[.agg #[.int .u8 (rX R).k, .int .i64 (rX R).n, .slice A (rX R).l.length c], .int .i64 (rN R), .int .i64 (rP R), .int .i64 (rE R)]) ∧ Below W.heap.size W w' ∧ Vsp w' (Fr W.heap.size w') A (rX R).l := by
  cases R with
  | ok v a m => exact h
  | bad p e => exact ⟨none, 0, h.1, h.2, .emp _⟩
theorem zero_small : (V.mk 0 0 []).size ≤ 1000000 := by rw [V.size, V.sizes]; decide
theorem reads_row (s : ByteArray) (i : Int) (w : World) (hv : Env w) (_ : s.size ≤ 140737488351232) (_ : -9223372036854775808 ≤ i ∧ i ≤ 9223372036854775807) :
    Calls Tryz.prog 4 #[.string s, .int .i64 i] w fun e w' => e = .returned (.bool true) ∧ Below w.heap.size w w' := by
  by_cases h20 : 20000 < s.size
  · exact reads_wide s i w hv h20
  have hlen : s.data.toList.length = s.size := by simp
  have hx : (rX (readV s.data.toList)).size ≤ 1000000 := by
    cases hz : readV s.data.toList with
    | ok v a m => have := (check_first (read_back (by omega) hz).1).2.2; show v.size ≤ _; omega
    | bad p e => exact zero_small
  have hy : (rX (partV s.data.toList i)).size ≤ 1000000 := by
    cases hz : partV s.data.toList i with
    | bad p e => exact zero_small
    | ok v a m =>
      show v.size ≤ _
      by_cases ho : i < 0 ∨ (s.data.toList.length : Int) < i
      · unfold partV at hz
        rw [if_pos ho] at hz
        cases hz
      · obtain ⟨b, rfl⟩ : ∃ b : Nat, i = b := ⟨i.toNat, by omega⟩
        rw [partV_in (by omega)] at hz
        have := (read_may _).1 _ _ _ _ _ _ _ _ (by omega) hz
        omega
  exact reads_gen s i w hv (by omega) _ _ _ 0 _ _ _ _ hx hy (fun W hW => (read_any s W (by omega) hW).mono fun _ _ h => rpost_gen h) (fun W hW => (part_any s i W (by omega) hW).mono fun _ _ h => ppost_gen h)
    (fun W => (rread_any tv_all s W (by omega)).mono fun _ _ h => rpost_gen h) (fun W => (rpart_any tv_all s i W (by omega)).mono fun _ _ h => ppost_gen h)
end Go.Proofs.YtbhekkkijomglaaGreatDoor
