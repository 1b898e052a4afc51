/- The walk of the statement VtextCut. -/
import Derived.Test.YtbhekkkijomglaaGreatDoorAwB
import Derived.Test.YtbhekkkijomglaaGreatDoorValPA
import Derived.Test.YtbhekkkijomglaaGreatDoorValL
import Derived.Test.YtbhekkkijomglaaGreatDoorCopA
namespace Go.Proofs.YtbhekkkijomglaaGreatDoor
open Go.RowKit

/-- What holds all along: the values that came in. -/
structure Lt (w W : World) (l : List V) (A : Option Addr) : Prop where
  e0 : Env w
  v0 : Vsl w w.heap.size A l
  b : Below w.heap.size w W
theorem Lt.e {w W : World} {l : List V} {A : Option Addr} (h : Lt w W l A) : Env W := h.e0.step h.b
theorem Lt.v {w W : World} {l : List V} {A : Option Addr} (h : Lt w W l A) : Vsl W W.heap.size A l := (h.v0.held h.b).more h.b.size
theorem Lt.held {w W W' : World} {l : List V} {A : Option Addr} (h : Lt w W l A) (hb : Below W.heap.size W W') : Lt w W' l A := ⟨h.e0, h.v0, h.b.trans (hb.mono h.b.size)⟩
theorem Lt.alloc {w W : World} {l : List V} {A : Option Addr} (h : Lt w W l A) (o : Obj) : Lt w (W.alloc o) l A := h.held ((Below.refl _ _).alloc (Nat.le_refl _) o)
theorem cut_set {w W : World} {l : List V} {A : Option Addr} {p : Nat} (h : Lt w W l A) (hp : w.heap.size ≤ p) (x y z : Value) : Lt w (((W.setCell ⟨p, 0, none⟩ x).setCell ⟨p, 1, none⟩ y).setCell ⟨p, 2, none⟩ z) l A :=
  ⟨h.e0, h.v0, ((h.b.setCell (p := ⟨p, 0, none⟩) hp x).setCell (p := ⟨p, 1, none⟩) hp y).setCell (p := ⟨p, 2, none⟩) hp z⟩
theorem cut_vsl {B : Nat} {W : World} {l : List V} {A : Option Addr} {p : Nat} (h : Vsp W (Fr B W) A l) (hp : p < B) (x y z : Value) : Vsl (((W.setCell ⟨p, 0, none⟩ x).setCell ⟨p, 1, none⟩ y).setCell ⟨p, 2, none⟩ z) (((W.setCell ⟨p, 0, none⟩ x).setCell ⟨p, 1, none⟩ y).setCell ⟨p, 2, none⟩ z).heap.size A l := by
  refine Vsp.fresh_vsl (B := B) (h.carry (fun q hq => ⟨hq.1, by simpa using hq.2⟩) (fun a u ha hu => ?_))
  have hp1 : a.block ≠ p := by have := ha.1; omega
  rw [World.cell?_setCell_other _ _ _ _ (by intro q; rw [← q] at hp1; exact hp1 rfl), World.cell?_setCell_other _ _ _ _ (by intro q; rw [← q] at hp1; exact hp1 rfl), World.cell?_setCell_other _ _ _ _ (by intro q; rw [← q] at hp1; exact hp1 rfl)]
  exact hu
set_option maxRecDepth 100000 in
set_option maxHeartbeats 2000000 in
theorem cut_long (l : List V) (A : Option Addr) (c : Nat) (b : Bool) (at_ : Int) (w : World) (hv : Env w) (hV : Vsl w w.heap.size A l) (hll : l.length ≤ 140737488351232) (hF : ∀ x ∈ l, x.Fits) (hlong : 6000 ≤ V.weighs l 0 6000) :
    Calls Tryz.prog 8 #[.slice A l.length c, .bool b, .int .u16 at_] w fun e w' => e = .returned (.bool true) ∧ Below w.heap.size w w' := by
  have HA := Lib.hid (fun W hW => awake_any W hW)
  have hL := fun W (hW : Lt w W l A) => vlong_any l A c W hll hF hW.v
  rw [decide_eq_true hlong] at hL
  have HL := Lib.hid hL
  have HP : Hid (Lt w w l A) := ⟨hv, hV, Below.refl _ _⟩
  clear hL hlong hF hV hv
  go_enter Tryz.func8, Tryz.ntmps8
  go_wp2_with fail
  refine (HL.out _ HP.out).mono ?_
  rintro e w1 ⟨rfl, hb⟩
  have HQ := Lib.hid (HP.out.held hb)
  clear hb
  go_wp2_with fail
  refine (HA.out _ HQ.out.e).mono ?_
  rintro e w2 ⟨rfl, hb2⟩
  have HX := Lib.hid (HQ.out.held hb2)
  clear hb2
  go_wp2_with fail
  go_ret
  exact ⟨rfl, HX.out.b⟩


set_option maxRecDepth 100000 in
set_option maxHeartbeats 4000000 in
theorem cut_bad_list (l : List V) (A : Option Addr) (c : Nat) (at_ : Int) (w : World) (hv : Env w) (hV : Vsl w w.heap.size A l) (hll : l.length ≤ 140737488351232) (hF : ∀ x ∈ l, x.Fits) (hlong : V.weighs l 0 6000 < 6000) (hsz : V.sizes l < 6000) (tx : List UInt8) (er : Nat) (he : er ≠ 0) (hs : showV (.mk 4 0 l) = (tx, er)) :
    Calls Tryz.prog 8 #[.slice A l.length c, .bool false, .int .u16 at_] w fun e w' => e = .returned (.bool true) ∧ Below w.heap.size w w' := by
  have HA := Lib.hid (fun W hW => awake_any W hW)
  have hL := fun W (hW : Lt w W l A) => vlong_any l A c W hll hF hW.v
  rw [decide_eq_false (by omega)] at hL
  have HL := Lib.hid hL
  have HP : Hid (Lt w w l A) := ⟨hv, hV, Below.refl _ _⟩
  have HT := Lib.hid (fun W (hW : Lt w W l A) => vlist_any l A c W (by omega) hW.v)
  have hS := fun A2 c2 W hE hV => vshow_any (.mk 4 0 l) A2 c2 W hE hV (by rw [V.size]; omega)
  rw [hs] at hS
  have HS := Lib.hid hS
  change Hid (∀ A2 c2 W, Env W → Vsl W W.heap.size A2 l → Calls Tryz.prog 13 #[.agg #[.int .u8 4, .int .i64 0, .slice A2 l.length c2]] W fun e w' => e = .returned (.tuple #[.string (bs tx), .int .i64 er]) ∧ Below W.heap.size W w') at HS
  have e1 : ((er : Int) != 0) = true := bne_iff_ne.2 (by omega)
  have e2 : ((er : Int) == 0) = false := beq_eq_false_iff_ne.2 (by omega)
  clear he
  clear hL hlong hF hV hv hS hs
  go_enter Tryz.func8, Tryz.ntmps8
  go_wp2_with fail
  refine (HL.out _ HP.out).mono ?_
  rintro e w1 ⟨rfl, hb⟩
  have HQ := Lib.hid (HP.out.held hb)
  clear hb
  go_wp2_with fail
  refine (HA.out _ HQ.out.e).mono ?_
  rintro e w2 ⟨rfl, hb2⟩
  have HX := Lib.hid (HQ.out.held hb2)
  clear hb2
  go_wp2_with fail
  refine (HT.out _ HX.out).mono ?_
  rintro e w3 ⟨A3, c3, he, hv3, hb3⟩
  change e = .returned (.agg #[.int .u8 4, .int .i64 0, .slice A3 l.length c3]) at he
  subst he
  have HY0 := Lib.hid ((HX.out.held hb3).alloc (.cells #[.int .u8 4, .int .i64 0, .slice A3 l.length c3] 24))
  have HV0 := Lib.hid ((hv3.fresh_vsl.alloc (Nat.le_refl _) (.cells #[.int .u8 4, .int .i64 0, .slice A3 l.length c3] 24)).more ((Below.refl w3.heap.size w3).alloc (Nat.le_refl _) (.cells #[.int .u8 4, .int .i64 0, .slice A3 l.length c3] 24)).size)
  clear hb3 hv3
  go_wp2_with fail
  refine (HS.out _ _ _ HY0.out.e HV0.out).mono ?_
  rintro e w5 ⟨rfl, hb5⟩
  have HZ := Lib.hid (HY0.out.held hb5)
  clear hb5
  go_wp2_with fail
  go_ret
  exact ⟨rfl, HZ.out.b⟩

set_option maxRecDepth 100000 in
set_option maxHeartbeats 4000000 in
theorem cut_ok_list (l : List V) (A : Option Addr) (c : Nat) (at_ : Int) (w : World) (hv : Env w) (hV : Vsl w w.heap.size A l) (hll : l.length ≤ 140737488351232) (hF : ∀ x ∈ l, x.Fits) (hlong : V.weighs l 0 6000 < 6000) (hsz : V.sizes l < 6000) (hat : 0 ≤ at_ ∧ at_ ≤ 65535) (tx : List UInt8) (hs : showV (.mk 4 0 l) = (tx, 0)) (ht : 2 ≤ tx.length) (htl : tx.length ≤ 65536) (j : Nat) (hj : at_.tmod (tx.length : Int) = (j : Int)) (hjl : j < tx.length) (p q : Nat) (hq : q ≠ 0)
    (hR : ∀ W, Env W → Calls Tryz.prog 17 #[.string ((bs tx).extract 0 j)] W fun e w' => e = .returned (.tuple #[.agg #[.int .u8 0, .int .i64 0, .slice none 0 0], .int .i64 p, .int .i64 q]) ∧ Below W.heap.size W w') :
    Calls Tryz.prog 8 #[.slice A l.length c, .bool false, .int .u16 at_] w fun e w' => e = .returned (.bool true) ∧ Below w.heap.size w w' := by
  have HA := Lib.hid (fun W hW => awake_any W hW)
  have hL := fun W (hW : Lt w W l A) => vlong_any l A c W hll hF hW.v
  rw [decide_eq_false (by omega)] at hL
  have HL := Lib.hid hL
  have HP : Hid (Lt w w l A) := ⟨hv, hV, Below.refl _ _⟩
  have HT := Lib.hid (fun W (hW : Lt w W l A) => vlist_any l A c W (by omega) hW.v)
  have hS := fun A2 c2 W hE hV => vshow_any (.mk 4 0 l) A2 c2 W hE hV (by rw [V.size]; omega)
  rw [hs] at hS
  have HS := Lib.hid hS
  change Hid (∀ A2 c2 W, Env W → Vsl W W.heap.size A2 l → Calls Tryz.prog 13 #[.agg #[.int .u8 4, .int .i64 0, .slice A2 l.length c2]] W fun e w' => e = .returned (.tuple #[.string (bs tx), .int .i64 0]) ∧ Below W.heap.size W w') at HS
  have HR := Lib.hid hR
  have t1 : ¬ ((bs tx).size : Int) < 2 := by rw [bs_size]; omega
  have t2 : ((bs tx).size : Int) ≠ 0 := by rw [bs_size]; omega
  have t3 : ((bs tx).size : Int).toNat ≤ 65536 := by rw [bs_size]; omega
  have q1 : ((q : Int) != 0) = true := bne_iff_ne.2 (by omega)
  have q2 : ((q : Int) == 0) = false := beq_eq_false_iff_ne.2 (by omega)
  rw [← bs_size] at hj hjl ht htl
  clear hR hq
  clear hL hlong hF hV hv hS hs
  go_enter Tryz.func8, Tryz.ntmps8
  go_wp2_with fail
  refine (HL.out _ HP.out).mono ?_
  rintro e w1 ⟨rfl, hb⟩
  have HQ := Lib.hid (HP.out.held hb)
  clear hb
  go_wp2_with fail
  refine (HA.out _ HQ.out.e).mono ?_
  rintro e w2 ⟨rfl, hb2⟩
  have HX := Lib.hid (HQ.out.held hb2)
  clear hb2
  go_wp2_with fail
  refine (HT.out _ HX.out).mono ?_
  rintro e w3 ⟨A3, c3, he, hv3, hb3⟩
  change e = .returned (.agg #[.int .u8 4, .int .i64 0, .slice A3 l.length c3]) at he
  subst he
  have HY0 := Lib.hid ((HX.out.held hb3).alloc (.cells #[.int .u8 4, .int .i64 0, .slice A3 l.length c3] 24))
  have HV0 := Lib.hid ((hv3.fresh_vsl.alloc (Nat.le_refl _) (.cells #[.int .u8 4, .int .i64 0, .slice A3 l.length c3] 24)).more ((Below.refl w3.heap.size w3).alloc (Nat.le_refl _) (.cells #[.int .u8 4, .int .i64 0, .slice A3 l.length c3] 24)).size)
  clear hb3 hv3
  go_wp2_with fail
  refine (HS.out _ _ _ HY0.out.e HV0.out).mono ?_
  rintro e w5 ⟨rfl, hb5⟩
  have HZ := Lib.hid (HY0.out.held hb5)
  clear hb5
  go_wp2_with fail
  refine (HR.out _ HZ.out.e).mono ?_
  rintro e w6 ⟨rfl, hb6⟩
  have HW := Lib.hid ((HZ.out.held hb6).alloc (.cells #[.int .u8 0, .int .i64 0, .slice none 0 0] 24))
  clear hb6
  go_wp2_with fail
  refine (same_zero _).mono ?_
  rintro e w8 ⟨rfl, hb8⟩
  have HG := Lib.hid (HW.out.held hb8)
  clear hb8
  go_wp2_with fail
  go_ret
  exact ⟨rfl, HG.out.b⟩

set_option maxRecDepth 100000 in
set_option maxHeartbeats 4000000 in
theorem cut_bad_tuple (l : List V) (A : Option Addr) (c : Nat) (at_ : Int) (w : World) (hv : Env w) (hV : Vsl w w.heap.size A l) (hll : l.length ≤ 140737488351232) (hF : ∀ x ∈ l, x.Fits) (hlong : V.weighs l 0 6000 < 6000) (hsz : V.sizes l < 6000) (tx : List UInt8) (er : Nat) (he : er ≠ 0) (hs : showV (.mk 3 0 l) = (tx, er)) :
    Calls Tryz.prog 8 #[.slice A l.length c, .bool true, .int .u16 at_] w fun e w' => e = .returned (.bool true) ∧ Below w.heap.size w w' := by
  have HA := Lib.hid (fun W hW => awake_any W hW)
  have hL := fun W (hW : Lt w W l A) => vlong_any l A c W hll hF hW.v
  rw [decide_eq_false (by omega)] at hL
  have HL := Lib.hid hL
  have HP : Hid (Lt w w l A) := ⟨hv, hV, Below.refl _ _⟩
  have HT := Lib.hid (fun W (hW : Lt w W l A) => vlist_any l A c W (by omega) hW.v)
  have HT2 := Lib.hid (fun W (hW : Lt w W l A) => vtuple_any l A c W (by omega) hW.v)
  have hS := fun A2 c2 W hE hV => vshow_any (.mk 3 0 l) A2 c2 W hE hV (by rw [V.size]; omega)
  rw [hs] at hS
  have HS := Lib.hid hS
  change Hid (∀ A2 c2 W, Env W → Vsl W W.heap.size A2 l → Calls Tryz.prog 13 #[.agg #[.int .u8 3, .int .i64 0, .slice A2 l.length c2]] W fun e w' => e = .returned (.tuple #[.string (bs tx), .int .i64 er]) ∧ Below W.heap.size W w') at HS
  have e1 : ((er : Int) != 0) = true := bne_iff_ne.2 (by omega)
  have e2 : ((er : Int) == 0) = false := beq_eq_false_iff_ne.2 (by omega)
  clear he
  clear hL hlong hF hV hv hS hs
  go_enter Tryz.func8, Tryz.ntmps8
  go_wp2_with fail
  refine (HL.out _ HP.out).mono ?_
  rintro e w1 ⟨rfl, hb⟩
  have HQ := Lib.hid (HP.out.held hb)
  clear hb
  go_wp2_with fail
  refine (HA.out _ HQ.out.e).mono ?_
  rintro e w2 ⟨rfl, hb2⟩
  have HX := Lib.hid (HQ.out.held hb2)
  clear hb2
  go_wp2_with fail
  refine (HT.out _ HX.out).mono ?_
  rintro e w3 ⟨A3, c3, he, hv3, hb3⟩
  change e = .returned (.agg #[.int .u8 4, .int .i64 0, .slice A3 l.length c3]) at he
  subst he
  have HY0 := Lib.hid ((HX.out.held hb3).alloc (.cells #[.int .u8 4, .int .i64 0, .slice A3 l.length c3] 24))
  have HV0 := Lib.hid ((hv3.fresh_vsl.alloc (Nat.le_refl _) (.cells #[.int .u8 4, .int .i64 0, .slice A3 l.length c3] 24)).more ((Below.refl w3.heap.size w3).alloc (Nat.le_refl _) (.cells #[.int .u8 4, .int .i64 0, .slice A3 l.length c3] 24)).size)
  have hw3 := (HX.out.held hb3).b.size
  clear hb3 hv3
  go_wp2_with fail
  have hk0 := Blk.new w3 24 #[.int .u8 4, .int .i64 0, .slice A3 l.length c3]
  refine (HT2.out _ HY0.out).mono ?_
  rintro e w4 ⟨A4, c4, he, hv4, hb4⟩
  change e = .returned (.agg #[.int .u8 3, .int .i64 0, .slice A4 l.length c4]) at he
  subst he
  have hk4 := hk0.below hb4 (by simp)
  obtain ⟨⟨q0, q1, q2⟩, g0, g1, g2⟩ := hk4.three
  have HY1 := HY0.out.held hb4
  clear HY0 HV0
  have HY0 := Lib.hid (cut_set HY1 (p := w3.heap.size) hw3 (.int .u8 3) (.int .i64 0) (.slice A4 l.length c4))
  have HV0 := Lib.hid (cut_vsl (p := w3.heap.size) hv4 (by simp) (.int .u8 3) (.int .i64 0) (.slice A4 l.length c4))
  clear hk0 hk4 hv4 hb4 HY1 hw3
  go_wp2_with fail
  refine (HS.out _ _ _ HY0.out.e HV0.out).mono ?_
  rintro e w5 ⟨rfl, hb5⟩
  have HZ := Lib.hid (HY0.out.held hb5)
  clear hb5
  go_wp2_with fail
  go_ret
  exact ⟨rfl, HZ.out.b⟩

set_option maxRecDepth 100000 in
set_option maxHeartbeats 4000000 in
theorem cut_ok_tuple (l : List V) (A : Option Addr) (c : Nat) (at_ : Int) (w : World) (hv : Env w) (hV : Vsl w w.heap.size A l) (hll : l.length ≤ 140737488351232) (hF : ∀ x ∈ l, x.Fits) (hlong : V.weighs l 0 6000 < 6000) (hsz : V.sizes l < 6000) (hat : 0 ≤ at_ ∧ at_ ≤ 65535) (tx : List UInt8) (hs : showV (.mk 3 0 l) = (tx, 0)) (ht : 2 ≤ tx.length) (htl : tx.length ≤ 65536) (j : Nat) (hj : at_.tmod (tx.length : Int) = (j : Int)) (hjl : j < tx.length) (p q : Nat) (hq : q ≠ 0)
    (hR : ∀ W, Env W → Calls Tryz.prog 17 #[.string ((bs tx).extract 0 j)] W fun e w' => e = .returned (.tuple #[.agg #[.int .u8 0, .int .i64 0, .slice none 0 0], .int .i64 p, .int .i64 q]) ∧ Below W.heap.size W w') :
    Calls Tryz.prog 8 #[.slice A l.length c, .bool true, .int .u16 at_] w fun e w' => e = .returned (.bool true) ∧ Below w.heap.size w w' := by
  have HA := Lib.hid (fun W hW => awake_any W hW)
  have hL := fun W (hW : Lt w W l A) => vlong_any l A c W hll hF hW.v
  rw [decide_eq_false (by omega)] at hL
  have HL := Lib.hid hL
  have HP : Hid (Lt w w l A) := ⟨hv, hV, Below.refl _ _⟩
  have HT := Lib.hid (fun W (hW : Lt w W l A) => vlist_any l A c W (by omega) hW.v)
  have HT2 := Lib.hid (fun W (hW : Lt w W l A) => vtuple_any l A c W (by omega) hW.v)
  have hS := fun A2 c2 W hE hV => vshow_any (.mk 3 0 l) A2 c2 W hE hV (by rw [V.size]; omega)
  rw [hs] at hS
  have HS := Lib.hid hS
  change Hid (∀ A2 c2 W, Env W → Vsl W W.heap.size A2 l → Calls Tryz.prog 13 #[.agg #[.int .u8 3, .int .i64 0, .slice A2 l.length c2]] W fun e w' => e = .returned (.tuple #[.string (bs tx), .int .i64 0]) ∧ Below W.heap.size W w') at HS
  have HR := Lib.hid hR
  have t1 : ¬ ((bs tx).size : Int) < 2 := by rw [bs_size]; omega
  have t2 : ((bs tx).size : Int) ≠ 0 := by rw [bs_size]; omega
  have t3 : ((bs tx).size : Int).toNat ≤ 65536 := by rw [bs_size]; omega
  have q1 : ((q : Int) != 0) = true := bne_iff_ne.2 (by omega)
  have q2 : ((q : Int) == 0) = false := beq_eq_false_iff_ne.2 (by omega)
  rw [← bs_size] at hj hjl ht htl
  clear hR hq
  clear hL hlong hF hV hv hS hs
  go_enter Tryz.func8, Tryz.ntmps8
  go_wp2_with fail
  refine (HL.out _ HP.out).mono ?_
  rintro e w1 ⟨rfl, hb⟩
  have HQ := Lib.hid (HP.out.held hb)
  clear hb
  go_wp2_with fail
  refine (HA.out _ HQ.out.e).mono ?_
  rintro e w2 ⟨rfl, hb2⟩
  have HX := Lib.hid (HQ.out.held hb2)
  clear hb2
  go_wp2_with fail
  refine (HT.out _ HX.out).mono ?_
  rintro e w3 ⟨A3, c3, he, hv3, hb3⟩
  change e = .returned (.agg #[.int .u8 4, .int .i64 0, .slice A3 l.length c3]) at he
  subst he
  have HY0 := Lib.hid ((HX.out.held hb3).alloc (.cells #[.int .u8 4, .int .i64 0, .slice A3 l.length c3] 24))
  have HV0 := Lib.hid ((hv3.fresh_vsl.alloc (Nat.le_refl _) (.cells #[.int .u8 4, .int .i64 0, .slice A3 l.length c3] 24)).more ((Below.refl w3.heap.size w3).alloc (Nat.le_refl _) (.cells #[.int .u8 4, .int .i64 0, .slice A3 l.length c3] 24)).size)
  have hw3 := (HX.out.held hb3).b.size
  clear hb3 hv3
  go_wp2_with fail
  have hk0 := Blk.new w3 24 #[.int .u8 4, .int .i64 0, .slice A3 l.length c3]
  refine (HT2.out _ HY0.out).mono ?_
  rintro e w4 ⟨A4, c4, he, hv4, hb4⟩
  change e = .returned (.agg #[.int .u8 3, .int .i64 0, .slice A4 l.length c4]) at he
  subst he
  have hk4 := hk0.below hb4 (by simp)
  obtain ⟨⟨q0, q1, q2⟩, g0, g1, g2⟩ := hk4.three
  have HY1 := HY0.out.held hb4
  clear HY0 HV0
  have HY0 := Lib.hid (cut_set HY1 (p := w3.heap.size) hw3 (.int .u8 3) (.int .i64 0) (.slice A4 l.length c4))
  have HV0 := Lib.hid (cut_vsl (p := w3.heap.size) hv4 (by simp) (.int .u8 3) (.int .i64 0) (.slice A4 l.length c4))
  clear hk0 hk4 hv4 hb4 HY1 hw3
  go_wp2_with fail
  refine (HS.out _ _ _ HY0.out.e HV0.out).mono ?_
  rintro e w5 ⟨rfl, hb5⟩
  have HZ := Lib.hid (HY0.out.held hb5)
  clear hb5
  go_wp2_with fail
  refine (HR.out _ HZ.out.e).mono ?_
  rintro e w6 ⟨rfl, hb6⟩
  have HW := Lib.hid ((HZ.out.held hb6).alloc (.cells #[.int .u8 0, .int .i64 0, .slice none 0 0] 24))
  clear hb6
  go_wp2_with fail
  refine (same_zero _).mono ?_
  rintro e w8 ⟨rfl, hb8⟩
  have HG := Lib.hid (HW.out.held hb8)
  clear hb8
  go_wp2_with fail
  go_ret
  exact ⟨rfl, HG.out.b⟩

theorem cut_row (l : List V) (A : Option Addr) (c : Nat) (b : Bool) (at_ : Int) (w : World) (hv : Env w) (hV : Vsl w w.heap.size A l) (hll : l.length ≤ 140737488351232) (hF : ∀ x ∈ l, x.Fits) (hat : 0 ≤ at_ ∧ at_ ≤ 65535) :
    Calls Tryz.prog 8 #[.slice A l.length c, .bool b, .int .u16 at_] w fun e w' => e = .returned (.bool true) ∧ Below w.heap.size w w' := by
  by_cases hlong : 6000 ≤ V.weighs l 0 6000
  · exact cut_long l A c b at_ w hv hV hll hF hlong
  have hsz : V.sizes l < 6000 := by
    have h := weighs_size l 0 6000 (by omega)
    omega
  have key : ∀ k : Nat, k = 3 ∨ k = 4 → ∀ tx, showV (.mk k 0 l) = (tx, 0) → 2 ≤ tx.length ∧ tx.length ≤ 65536 ∧ ∃ (j p q : Nat), at_.tmod (tx.length : Int) = (j : Int) ∧ j < tx.length ∧ q ≠ 0 ∧
      ∀ W, Env W → Calls Tryz.prog 17 #[.string ((bs tx).extract 0 j)] W fun e w' => e = .returned (.tuple #[.agg #[.int .u8 0, .int .i64 0, .slice none 0 0], .int .i64 p, .int .i64 q]) ∧ Below W.heap.size W w' := by
    intro k hk tx hs
    obtain ⟨hc, htx, htl⟩ := showV_ok hs
    have h2 : 2 ≤ tx.length := by
      rw [htx, V.text, if_neg (by omega), if_neg (by omega)]
      simp
    have h0 := Int.tmod_nonneg (tx.length : Int) hat.1
    have h1 := Int.tmod_lt_of_pos at_ (show (0 : Int) < (tx.length : Int) by omega)
    obtain ⟨j, hj⟩ : ∃ j : Nat, at_.tmod (tx.length : Int) = (j : Int) := ⟨(at_.tmod (tx.length : Int)).toNat, by omega⟩
    have hjl : j < tx.length := by omega
    have hcut := fun u a m => read_cut (v := .mk k 0 l) hk hc j (by rw [← htx]; exact hjl) (u := u) (a := a) (m := m)
    rw [← htx] at hcut
    have hx : ((bs tx).extract 0 j).data.toList = tx.take j := by rw [slice_list, bs_list]; rfl
    cases hz : readV (tx.take j) with
    | ok v a m => exact absurd hz (hcut v a m)
    | bad p q =>
      refine ⟨h2, htl, j, p, q, hj, hjl, readV_why hz, fun W hW => ?_⟩
      have h := read_any ((bs tx).extract 0 j) W (by rw [ByteArray.size_extract, bs_size]; omega) hW
      rw [hx, hz] at h
      exact h
  obtain ⟨⟨tx, er⟩, hs⟩ : ∃ q, showV (.mk (if b = true then 3 else 4) 0 l) = q := ⟨_, rfl⟩
  by_cases her : er = 0
  · subst her
    cases b with
    | false =>
      obtain ⟨h1, h2, j, p, q, h3, h4, h5, h6⟩ := key 4 (.inr rfl) tx hs
      exact cut_ok_list l A c at_ w hv hV hll hF (by omega) hsz hat tx hs h1 h2 j h3 h4 p q h5 h6
    | true =>
      obtain ⟨h1, h2, j, p, q, h3, h4, h5, h6⟩ := key 3 (.inl rfl) tx hs
      exact cut_ok_tuple l A c at_ w hv hV hll hF (by omega) hsz hat tx hs h1 h2 j h3 h4 p q h5 h6
  · cases b with
    | false => exact cut_bad_list l A c at_ w hv hV hll hF (by omega) hsz tx er her hs
    | true => exact cut_bad_tuple l A c at_ w hv hV hll hF (by omega) hsz tx er her hs
end Go.Proofs.YtbhekkkijomglaaGreatDoor
