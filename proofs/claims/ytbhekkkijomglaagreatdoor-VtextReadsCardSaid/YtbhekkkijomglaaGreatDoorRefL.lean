/- The walk of the reference's Small (whole numbers). -/
import Derived.Test.YtbhekkkijomglaaGreatDoorRefK
namespace Go.Proofs.YtbhekkkijomglaaGreatDoor
open Go.RowKit

theorem ret_pair {k : IntKind} {a b : Int} {c : Bool} (h : a = b) : Ending.returned (.tuple #[.int k a, .bool c]) = .returned (.tuple #[.int k b, .bool c]) := by rw [h]

set_option maxRecDepth 100000 in
set_option maxHeartbeats 1000000 in
theorem small_pos (v : Nat) (B : Option Addr) (d : Nat) (w : World) (hB : Nsl w B (dgs (65536 ^ 4) v)) (hl : (dgs (65536 ^ 4) v).length ≤ 100000) (h : v ≤ 9223372036854775807) :
    Calls Tryz.prog 79 #[.agg #[.bool false, .slice B (dgs (65536 ^ 4) v).length d]] w fun e w' => e = .returned (.tuple #[.int .i64 (v : Nat), .bool true]) ∧ Below w.heap.size w w' := by
  have MM := fun W (B : Option Addr) d h => make_any false (dgs (65536 ^ 4) v) B _ d W rfl hl h (dgs_lt (by decide) v)
  rw [dv_dgs4, Bool.false_and] at MM
  have MK := Lib.hid MM; clear MM
  have SS := fun W (B : Option Addr) d h => nsmall_any (dgs (65536 ^ 4) v) B _ d W rfl hl h (dgs_lt (by decide) v)
  rw [dv_dgs4, show smallN v = (v, true) from if_pos (by omega)] at SS
  have SM := Lib.hid SS; clear SS
  have h1 : (v : Int) ≤ 9223372036854775807 := by omega
  go_enter Tryz.func79, Tryz.ntmps79
  go_wp2_with fail
  refine (MK.out _ B d (hB.below ((Below.refl _ _).alloc (Nat.le_refl _) _))).mono ?_
  rintro e w2 ⟨x, rfl, ⟨B2, d2, rfl, hB2, hge⟩, hb2⟩
  have hbw2 : Below w.heap.size w w2 := ((Below.refl w.heap.size w).alloc (Nat.le_refl _) (.cells #[.bool false, .slice B (dgs (65536 ^ 4) v).length d] 104)).trans (hb2.mono (by simp))
  have hblk : Blk w2 w.heap.size 104 #[.bool false, .slice B (dgs (65536 ^ 4) v).length d] := (Blk.new w _ _).below hb2 (by simp)
  have hz2 : w.heap.size + 1 ≤ w2.heap.size := by have := hb2.size; simpa using this
  have HGE : Hid (∀ a, B2 = some a → a.block ≠ w.heap.size) := fun a ha e => by have := hge a ha; simp at this; omega
  have c0 := hblk.cell 0
  have c1 := hblk.cell 1
  have f0 := hblk.frozen 0
  have f1 := hblk.frozen 1
  change w2.cell? _ = some (.bool false) at c0
  change w2.cell? _ = some (.slice B (dgs (65536 ^ 4) v).length d) at c1
  have hB3 : Nsl ((w2.setCell ⟨w.heap.size, 0, none⟩ (.bool false)).setCell ⟨w.heap.size, 1, none⟩ (.slice B2 (dgs (65536 ^ 4) v).length d2)) B2 (dgs (65536 ^ 4) v) := (hB2.set_ HGE.out _).set_ HGE.out _
  have hb3 : Below w.heap.size w ((w2.setCell ⟨w.heap.size, 0, none⟩ (.bool false)).setCell ⟨w.heap.size, 1, none⟩ (.slice B2 (dgs (65536 ^ 4) v).length d2)) := (hbw2.setCell (p := ⟨w.heap.size, 0, none⟩) (Nat.le_refl _) _).setCell (p := ⟨w.heap.size, 1, none⟩) (Nat.le_refl _) _
  have hblk3 : Blk ((w2.setCell ⟨w.heap.size, 0, none⟩ (.bool false)).setCell ⟨w.heap.size, 1, none⟩ (.slice B2 (dgs (65536 ^ 4) v).length d2)) w.heap.size 104 #[.bool false, .slice B2 (dgs (65536 ^ 4) v).length d2] := (hblk.set_ 0 _).set_ 1 _
  have HX := Lib.hid (And.intro hB3 (And.intro hb3 hblk3))
  clear hge hb2 hB3 hb3 hblk3 hbw2
  go_wp2_with fail
  refine (SM.out _ B2 d2 HX.out.1).mono ?_
  rintro e w4 ⟨rfl, hb4⟩
  have hblk4 := HX.out.2.2.below hb4 HX.out.2.2.lt
  have e0 := hblk4.cell 0
  change w4.cell? _ = some (.bool false) at e0
  have hb5 := HX.out.2.1.trans (hb4.mono HX.out.2.1.size)
  have HB5 := Lib.hid hb5
  clear hb4 hblk4 hb5 c0 c1 f0 f1 hblk
  go_wp2_with fail
  go_ret2
  exact ⟨rfl, HB5.out⟩

set_option maxRecDepth 100000 in
set_option maxHeartbeats 1000000 in
theorem small_pos_long (v : Nat) (B : Option Addr) (d : Nat) (w : World) (hB : Nsl w B (dgs (65536 ^ 4) v)) (hl : (dgs (65536 ^ 4) v).length ≤ 100000) (h : 9223372036854775807 < v) (h2 : v < 18446744073709551616) :
    Calls Tryz.prog 79 #[.agg #[.bool false, .slice B (dgs (65536 ^ 4) v).length d]] w fun e w' => e = .returned (.tuple #[.int .i64 0, .bool false]) ∧ Below w.heap.size w w' := by
  have MM := fun W (B : Option Addr) d h => make_any false (dgs (65536 ^ 4) v) B _ d W rfl hl h (dgs_lt (by decide) v)
  rw [dv_dgs4, Bool.false_and] at MM
  have MK := Lib.hid MM; clear MM
  have SS := fun W (B : Option Addr) d h => nsmall_any (dgs (65536 ^ 4) v) B _ d W rfl hl h (dgs_lt (by decide) v)
  rw [dv_dgs4, show smallN v = (v, true) from if_pos (by omega)] at SS
  have SM := Lib.hid SS; clear SS
  have h1 : (9223372036854775807 : Int) < (v : Int) := by omega
  go_enter Tryz.func79, Tryz.ntmps79
  go_wp2_with fail
  refine (MK.out _ B d (hB.below ((Below.refl _ _).alloc (Nat.le_refl _) _))).mono ?_
  rintro e w2 ⟨x, rfl, ⟨B2, d2, rfl, hB2, hge⟩, hb2⟩
  have hbw2 : Below w.heap.size w w2 := ((Below.refl w.heap.size w).alloc (Nat.le_refl _) (.cells #[.bool false, .slice B (dgs (65536 ^ 4) v).length d] 104)).trans (hb2.mono (by simp))
  have hblk : Blk w2 w.heap.size 104 #[.bool false, .slice B (dgs (65536 ^ 4) v).length d] := (Blk.new w _ _).below hb2 (by simp)
  have hz2 : w.heap.size + 1 ≤ w2.heap.size := by have := hb2.size; simpa using this
  have HGE : Hid (∀ a, B2 = some a → a.block ≠ w.heap.size) := fun a ha e => by have := hge a ha; simp at this; omega
  have c0 := hblk.cell 0
  have c1 := hblk.cell 1
  have f0 := hblk.frozen 0
  have f1 := hblk.frozen 1
  change w2.cell? _ = some (.bool false) at c0
  change w2.cell? _ = some (.slice B (dgs (65536 ^ 4) v).length d) at c1
  have hB3 : Nsl ((w2.setCell ⟨w.heap.size, 0, none⟩ (.bool false)).setCell ⟨w.heap.size, 1, none⟩ (.slice B2 (dgs (65536 ^ 4) v).length d2)) B2 (dgs (65536 ^ 4) v) := (hB2.set_ HGE.out _).set_ HGE.out _
  have hb3 : Below w.heap.size w ((w2.setCell ⟨w.heap.size, 0, none⟩ (.bool false)).setCell ⟨w.heap.size, 1, none⟩ (.slice B2 (dgs (65536 ^ 4) v).length d2)) := (hbw2.setCell (p := ⟨w.heap.size, 0, none⟩) (Nat.le_refl _) _).setCell (p := ⟨w.heap.size, 1, none⟩) (Nat.le_refl _) _
  have hblk3 : Blk ((w2.setCell ⟨w.heap.size, 0, none⟩ (.bool false)).setCell ⟨w.heap.size, 1, none⟩ (.slice B2 (dgs (65536 ^ 4) v).length d2)) w.heap.size 104 #[.bool false, .slice B2 (dgs (65536 ^ 4) v).length d2] := (hblk.set_ 0 _).set_ 1 _
  have HX := Lib.hid (And.intro hB3 (And.intro hb3 hblk3))
  clear hge hb2 hB3 hb3 hblk3 hbw2
  go_wp2_with fail
  refine (SM.out _ B2 d2 HX.out.1).mono ?_
  rintro e w4 ⟨rfl, hb4⟩
  have hblk4 := HX.out.2.2.below hb4 HX.out.2.2.lt
  have e0 := hblk4.cell 0
  change w4.cell? _ = some (.bool false) at e0
  have hb5 := HX.out.2.1.trans (hb4.mono HX.out.2.1.size)
  have HB5 := Lib.hid hb5
  clear hb4 hblk4 hb5 c0 c1 f0 f1 hblk
  go_wp2_with fail
  go_ret2
  exact ⟨rfl, HB5.out⟩

set_option maxRecDepth 100000 in
set_option maxHeartbeats 1000000 in
theorem small_pos_great (v : Nat) (B : Option Addr) (d : Nat) (w : World) (hB : Nsl w B (dgs (65536 ^ 4) v)) (hl : (dgs (65536 ^ 4) v).length ≤ 100000) (h : 18446744073709551616 ≤ v) :
    Calls Tryz.prog 79 #[.agg #[.bool false, .slice B (dgs (65536 ^ 4) v).length d]] w fun e w' => e = .returned (.tuple #[.int .i64 0, .bool false]) ∧ Below w.heap.size w w' := by
  have MM := fun W (B : Option Addr) d h => make_any false (dgs (65536 ^ 4) v) B _ d W rfl hl h (dgs_lt (by decide) v)
  rw [dv_dgs4, Bool.false_and] at MM
  have MK := Lib.hid MM; clear MM
  have SS := fun W (B : Option Addr) d h => nsmall_any (dgs (65536 ^ 4) v) B _ d W rfl hl h (dgs_lt (by decide) v)
  rw [dv_dgs4, show smallN v = (0, false) from if_neg (by omega)] at SS
  have SM := Lib.hid SS; clear SS
  skip
  go_enter Tryz.func79, Tryz.ntmps79
  go_wp2_with fail
  refine (MK.out _ B d (hB.below ((Below.refl _ _).alloc (Nat.le_refl _) _))).mono ?_
  rintro e w2 ⟨x, rfl, ⟨B2, d2, rfl, hB2, hge⟩, hb2⟩
  have hbw2 : Below w.heap.size w w2 := ((Below.refl w.heap.size w).alloc (Nat.le_refl _) (.cells #[.bool false, .slice B (dgs (65536 ^ 4) v).length d] 104)).trans (hb2.mono (by simp))
  have hblk : Blk w2 w.heap.size 104 #[.bool false, .slice B (dgs (65536 ^ 4) v).length d] := (Blk.new w _ _).below hb2 (by simp)
  have hz2 : w.heap.size + 1 ≤ w2.heap.size := by have := hb2.size; simpa using this
  have HGE : Hid (∀ a, B2 = some a → a.block ≠ w.heap.size) := fun a ha e => by have := hge a ha; simp at this; omega
  have c0 := hblk.cell 0
  have c1 := hblk.cell 1
  have f0 := hblk.frozen 0
  have f1 := hblk.frozen 1
  change w2.cell? _ = some (.bool false) at c0
  change w2.cell? _ = some (.slice B (dgs (65536 ^ 4) v).length d) at c1
  have hB3 : Nsl ((w2.setCell ⟨w.heap.size, 0, none⟩ (.bool false)).setCell ⟨w.heap.size, 1, none⟩ (.slice B2 (dgs (65536 ^ 4) v).length d2)) B2 (dgs (65536 ^ 4) v) := (hB2.set_ HGE.out _).set_ HGE.out _
  have hb3 : Below w.heap.size w ((w2.setCell ⟨w.heap.size, 0, none⟩ (.bool false)).setCell ⟨w.heap.size, 1, none⟩ (.slice B2 (dgs (65536 ^ 4) v).length d2)) := (hbw2.setCell (p := ⟨w.heap.size, 0, none⟩) (Nat.le_refl _) _).setCell (p := ⟨w.heap.size, 1, none⟩) (Nat.le_refl _) _
  have hblk3 : Blk ((w2.setCell ⟨w.heap.size, 0, none⟩ (.bool false)).setCell ⟨w.heap.size, 1, none⟩ (.slice B2 (dgs (65536 ^ 4) v).length d2)) w.heap.size 104 #[.bool false, .slice B2 (dgs (65536 ^ 4) v).length d2] := (hblk.set_ 0 _).set_ 1 _
  have HX := Lib.hid (And.intro hB3 (And.intro hb3 hblk3))
  clear hge hb2 hB3 hb3 hblk3 hbw2
  go_wp2_with fail
  refine (SM.out _ B2 d2 HX.out.1).mono ?_
  rintro e w4 ⟨rfl, hb4⟩
  have hblk4 := HX.out.2.2.below hb4 HX.out.2.2.lt
  have e0 := hblk4.cell 0
  change w4.cell? _ = some (.bool false) at e0
  have hb5 := HX.out.2.1.trans (hb4.mono HX.out.2.1.size)
  have HB5 := Lib.hid hb5
  clear hb4 hblk4 hb5 c0 c1 f0 f1 hblk
  go_wp2_with fail
  go_ret2
  exact ⟨rfl, HB5.out⟩

set_option maxRecDepth 100000 in
set_option maxHeartbeats 1000000 in
theorem small_neg (v : Nat) (B : Option Addr) (d : Nat) (w : World) (hB : Nsl w B (dgs (65536 ^ 4) v)) (hl : (dgs (65536 ^ 4) v).length ≤ 100000) (hp : 0 < v) (h : v ≤ 9223372036854775808) :
    Calls Tryz.prog 79 #[.agg #[.bool true, .slice B (dgs (65536 ^ 4) v).length d]] w fun e w' => e = .returned (.tuple #[.int .i64 (-(v : Int)), .bool true]) ∧ Below w.heap.size w w' := by
  have MM := fun W (B : Option Addr) d h => make_any true (dgs (65536 ^ 4) v) B _ d W rfl hl h (dgs_lt (by decide) v)
  rw [dv_dgs4, decide_eq_true hp, Bool.true_and] at MM
  have MK := Lib.hid MM; clear MM
  have SS := fun W (B : Option Addr) d h => nsmall_any (dgs (65536 ^ 4) v) B _ d W rfl hl h (dgs_lt (by decide) v)
  rw [dv_dgs4, show smallN v = (v, true) from if_pos (by omega)] at SS
  have SM := Lib.hid SS; clear SS
  have h1 : (v : Int) ≤ 9223372036854775808 := by omega
  have h2 : (1 : Int) ≤ (v : Int) := by omega
  go_enter Tryz.func79, Tryz.ntmps79
  go_wp2_with fail
  refine (MK.out _ B d (hB.below ((Below.refl _ _).alloc (Nat.le_refl _) _))).mono ?_
  rintro e w2 ⟨x, rfl, ⟨B2, d2, rfl, hB2, hge⟩, hb2⟩
  have hbw2 : Below w.heap.size w w2 := ((Below.refl w.heap.size w).alloc (Nat.le_refl _) (.cells #[.bool true, .slice B (dgs (65536 ^ 4) v).length d] 104)).trans (hb2.mono (by simp))
  have hblk : Blk w2 w.heap.size 104 #[.bool true, .slice B (dgs (65536 ^ 4) v).length d] := (Blk.new w _ _).below hb2 (by simp)
  have hz2 : w.heap.size + 1 ≤ w2.heap.size := by have := hb2.size; simpa using this
  have HGE : Hid (∀ a, B2 = some a → a.block ≠ w.heap.size) := fun a ha e => by have := hge a ha; simp at this; omega
  have c0 := hblk.cell 0
  have c1 := hblk.cell 1
  have f0 := hblk.frozen 0
  have f1 := hblk.frozen 1
  change w2.cell? _ = some (.bool true) at c0
  change w2.cell? _ = some (.slice B (dgs (65536 ^ 4) v).length d) at c1
  have hB3 : Nsl ((w2.setCell ⟨w.heap.size, 0, none⟩ (.bool true)).setCell ⟨w.heap.size, 1, none⟩ (.slice B2 (dgs (65536 ^ 4) v).length d2)) B2 (dgs (65536 ^ 4) v) := (hB2.set_ HGE.out _).set_ HGE.out _
  have hb3 : Below w.heap.size w ((w2.setCell ⟨w.heap.size, 0, none⟩ (.bool true)).setCell ⟨w.heap.size, 1, none⟩ (.slice B2 (dgs (65536 ^ 4) v).length d2)) := (hbw2.setCell (p := ⟨w.heap.size, 0, none⟩) (Nat.le_refl _) _).setCell (p := ⟨w.heap.size, 1, none⟩) (Nat.le_refl _) _
  have hblk3 : Blk ((w2.setCell ⟨w.heap.size, 0, none⟩ (.bool true)).setCell ⟨w.heap.size, 1, none⟩ (.slice B2 (dgs (65536 ^ 4) v).length d2)) w.heap.size 104 #[.bool true, .slice B2 (dgs (65536 ^ 4) v).length d2] := (hblk.set_ 0 _).set_ 1 _
  have HX := Lib.hid (And.intro hB3 (And.intro hb3 hblk3))
  clear hge hb2 hB3 hb3 hblk3 hbw2
  go_wp2_with fail
  refine (SM.out _ B2 d2 HX.out.1).mono ?_
  rintro e w4 ⟨rfl, hb4⟩
  have hblk4 := HX.out.2.2.below hb4 HX.out.2.2.lt
  have e0 := hblk4.cell 0
  change w4.cell? _ = some (.bool true) at e0
  have hb5 := HX.out.2.1.trans (hb4.mono HX.out.2.1.size)
  have HB5 := Lib.hid hb5
  clear hb4 hblk4 hb5 c0 c1 f0 f1 hblk
  go_wp2_with fail
  go_ret2
  exact ⟨ret_pair (a := -((v : Int) - 1) - 1) (by omega), HB5.out⟩

set_option maxRecDepth 100000 in
set_option maxHeartbeats 1000000 in
theorem small_neg_long (v : Nat) (B : Option Addr) (d : Nat) (w : World) (hB : Nsl w B (dgs (65536 ^ 4) v)) (hl : (dgs (65536 ^ 4) v).length ≤ 100000) (hp : 0 < v) (h : 9223372036854775808 < v) (h2 : v < 18446744073709551616) :
    Calls Tryz.prog 79 #[.agg #[.bool true, .slice B (dgs (65536 ^ 4) v).length d]] w fun e w' => e = .returned (.tuple #[.int .i64 0, .bool false]) ∧ Below w.heap.size w w' := by
  have MM := fun W (B : Option Addr) d h => make_any true (dgs (65536 ^ 4) v) B _ d W rfl hl h (dgs_lt (by decide) v)
  rw [dv_dgs4, decide_eq_true hp, Bool.true_and] at MM
  have MK := Lib.hid MM; clear MM
  have SS := fun W (B : Option Addr) d h => nsmall_any (dgs (65536 ^ 4) v) B _ d W rfl hl h (dgs_lt (by decide) v)
  rw [dv_dgs4, show smallN v = (v, true) from if_pos (by omega)] at SS
  have SM := Lib.hid SS; clear SS
  have h1 : (9223372036854775808 : Int) < (v : Int) := by omega
  go_enter Tryz.func79, Tryz.ntmps79
  go_wp2_with fail
  refine (MK.out _ B d (hB.below ((Below.refl _ _).alloc (Nat.le_refl _) _))).mono ?_
  rintro e w2 ⟨x, rfl, ⟨B2, d2, rfl, hB2, hge⟩, hb2⟩
  have hbw2 : Below w.heap.size w w2 := ((Below.refl w.heap.size w).alloc (Nat.le_refl _) (.cells #[.bool true, .slice B (dgs (65536 ^ 4) v).length d] 104)).trans (hb2.mono (by simp))
  have hblk : Blk w2 w.heap.size 104 #[.bool true, .slice B (dgs (65536 ^ 4) v).length d] := (Blk.new w _ _).below hb2 (by simp)
  have hz2 : w.heap.size + 1 ≤ w2.heap.size := by have := hb2.size; simpa using this
  have HGE : Hid (∀ a, B2 = some a → a.block ≠ w.heap.size) := fun a ha e => by have := hge a ha; simp at this; omega
  have c0 := hblk.cell 0
  have c1 := hblk.cell 1
  have f0 := hblk.frozen 0
  have f1 := hblk.frozen 1
  change w2.cell? _ = some (.bool true) at c0
  change w2.cell? _ = some (.slice B (dgs (65536 ^ 4) v).length d) at c1
  have hB3 : Nsl ((w2.setCell ⟨w.heap.size, 0, none⟩ (.bool true)).setCell ⟨w.heap.size, 1, none⟩ (.slice B2 (dgs (65536 ^ 4) v).length d2)) B2 (dgs (65536 ^ 4) v) := (hB2.set_ HGE.out _).set_ HGE.out _
  have hb3 : Below w.heap.size w ((w2.setCell ⟨w.heap.size, 0, none⟩ (.bool true)).setCell ⟨w.heap.size, 1, none⟩ (.slice B2 (dgs (65536 ^ 4) v).length d2)) := (hbw2.setCell (p := ⟨w.heap.size, 0, none⟩) (Nat.le_refl _) _).setCell (p := ⟨w.heap.size, 1, none⟩) (Nat.le_refl _) _
  have hblk3 : Blk ((w2.setCell ⟨w.heap.size, 0, none⟩ (.bool true)).setCell ⟨w.heap.size, 1, none⟩ (.slice B2 (dgs (65536 ^ 4) v).length d2)) w.heap.size 104 #[.bool true, .slice B2 (dgs (65536 ^ 4) v).length d2] := (hblk.set_ 0 _).set_ 1 _
  have HX := Lib.hid (And.intro hB3 (And.intro hb3 hblk3))
  clear hge hb2 hB3 hb3 hblk3 hbw2
  go_wp2_with fail
  refine (SM.out _ B2 d2 HX.out.1).mono ?_
  rintro e w4 ⟨rfl, hb4⟩
  have hblk4 := HX.out.2.2.below hb4 HX.out.2.2.lt
  have e0 := hblk4.cell 0
  change w4.cell? _ = some (.bool true) at e0
  have hb5 := HX.out.2.1.trans (hb4.mono HX.out.2.1.size)
  have HB5 := Lib.hid hb5
  clear hb4 hblk4 hb5 c0 c1 f0 f1 hblk
  go_wp2_with fail
  go_ret2
  exact ⟨rfl, HB5.out⟩

set_option maxRecDepth 100000 in
set_option maxHeartbeats 1000000 in
theorem small_neg_great (v : Nat) (B : Option Addr) (d : Nat) (w : World) (hB : Nsl w B (dgs (65536 ^ 4) v)) (hl : (dgs (65536 ^ 4) v).length ≤ 100000) (hp : 0 < v) (h : 18446744073709551616 ≤ v) :
    Calls Tryz.prog 79 #[.agg #[.bool true, .slice B (dgs (65536 ^ 4) v).length d]] w fun e w' => e = .returned (.tuple #[.int .i64 0, .bool false]) ∧ Below w.heap.size w w' := by
  have MM := fun W (B : Option Addr) d h => make_any true (dgs (65536 ^ 4) v) B _ d W rfl hl h (dgs_lt (by decide) v)
  rw [dv_dgs4, decide_eq_true hp, Bool.true_and] at MM
  have MK := Lib.hid MM; clear MM
  have SS := fun W (B : Option Addr) d h => nsmall_any (dgs (65536 ^ 4) v) B _ d W rfl hl h (dgs_lt (by decide) v)
  rw [dv_dgs4, show smallN v = (0, false) from if_neg (by omega)] at SS
  have SM := Lib.hid SS; clear SS
  skip
  go_enter Tryz.func79, Tryz.ntmps79
  go_wp2_with fail
  refine (MK.out _ B d (hB.below ((Below.refl _ _).alloc (Nat.le_refl _) _))).mono ?_
  rintro e w2 ⟨x, rfl, ⟨B2, d2, rfl, hB2, hge⟩, hb2⟩
  have hbw2 : Below w.heap.size w w2 := ((Below.refl w.heap.size w).alloc (Nat.le_refl _) (.cells #[.bool true, .slice B (dgs (65536 ^ 4) v).length d] 104)).trans (hb2.mono (by simp))
  have hblk : Blk w2 w.heap.size 104 #[.bool true, .slice B (dgs (65536 ^ 4) v).length d] := (Blk.new w _ _).below hb2 (by simp)
  have hz2 : w.heap.size + 1 ≤ w2.heap.size := by have := hb2.size; simpa using this
  have HGE : Hid (∀ a, B2 = some a → a.block ≠ w.heap.size) := fun a ha e => by have := hge a ha; simp at this; omega
  have c0 := hblk.cell 0
  have c1 := hblk.cell 1
  have f0 := hblk.frozen 0
  have f1 := hblk.frozen 1
  change w2.cell? _ = some (.bool true) at c0
  change w2.cell? _ = some (.slice B (dgs (65536 ^ 4) v).length d) at c1
  have hB3 : Nsl ((w2.setCell ⟨w.heap.size, 0, none⟩ (.bool true)).setCell ⟨w.heap.size, 1, none⟩ (.slice B2 (dgs (65536 ^ 4) v).length d2)) B2 (dgs (65536 ^ 4) v) := (hB2.set_ HGE.out _).set_ HGE.out _
  have hb3 : Below w.heap.size w ((w2.setCell ⟨w.heap.size, 0, none⟩ (.bool true)).setCell ⟨w.heap.size, 1, none⟩ (.slice B2 (dgs (65536 ^ 4) v).length d2)) := (hbw2.setCell (p := ⟨w.heap.size, 0, none⟩) (Nat.le_refl _) _).setCell (p := ⟨w.heap.size, 1, none⟩) (Nat.le_refl _) _
  have hblk3 : Blk ((w2.setCell ⟨w.heap.size, 0, none⟩ (.bool true)).setCell ⟨w.heap.size, 1, none⟩ (.slice B2 (dgs (65536 ^ 4) v).length d2)) w.heap.size 104 #[.bool true, .slice B2 (dgs (65536 ^ 4) v).length d2] := (hblk.set_ 0 _).set_ 1 _
  have HX := Lib.hid (And.intro hB3 (And.intro hb3 hblk3))
  clear hge hb2 hB3 hb3 hblk3 hbw2
  go_wp2_with fail
  refine (SM.out _ B2 d2 HX.out.1).mono ?_
  rintro e w4 ⟨rfl, hb4⟩
  have hblk4 := HX.out.2.2.below hb4 HX.out.2.2.lt
  have e0 := hblk4.cell 0
  change w4.cell? _ = some (.bool true) at e0
  have hb5 := HX.out.2.1.trans (hb4.mono HX.out.2.1.size)
  have HB5 := Lib.hid hb5
  clear hb4 hblk4 hb5 c0 c1 f0 f1 hblk
  go_wp2_with fail
  go_ret2
  exact ⟨rfl, HB5.out⟩
end Go.Proofs.YtbhekkkijomglaaGreatDoor
