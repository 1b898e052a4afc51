/- The walk of the statement VtextBack. -/
import Derived.Test.YtbhekkkijomglaaGreatDoorPartV
namespace Go.Proofs.YtbhekkkijomglaaGreatDoor
open Go.RowKit

set_option maxRecDepth 100000 in
set_option maxHeartbeats 2000000 in
theorem may_any (x : V) (A : Option Addr) (c : Nat) (W : World) (hV : Vsl W W.heap.size A x.l) (hsz : x.size < 1000000) :
    Calls Tryz.prog 25 #[.agg #[.int .u8 x.k, .int .i64 x.n, .slice A x.l.length c]] W fun e w' => e = .returned (.bool (((x.check : Nat) : Int) == 0)) ∧ Below W.heap.size W w' := by
  have P := And.intro ((Below.refl W.heap.size W).alloc (Nat.le_refl _) (.cells #[.int .u8 x.k, .int .i64 x.n, .slice A x.l.length c] 24)) ((hV.alloc (Nat.le_refl _) (.cells #[.int .u8 x.k, .int .i64 x.n, .slice A x.l.length c] 24)).more (B' := (W.alloc (.cells #[.int .u8 x.k, .int .i64 x.n, .slice A x.l.length c] 24)).heap.size) (by simp))
  have hC := vcheck_any x A c _ P.2 hsz
  have hC0 := vcheck_any x A c _ hV hsz
  change Calls Tryz.prog 30 #[.agg #[.int .u8 x.k, .int .i64 x.n, .slice A x.l.length c]] _ _ at hC hC0
  have HC := Lib.hid hC; have HC0 := Lib.hid hC0; have HP := Lib.hid P.1
  clear hC hC0 P
  go_enter Tryz.func25, Tryz.ntmps25
  go_wp2_with fail
  first
    | (refine HC.out.mono ?_
       rintro e w1 ⟨rfl, hb⟩
       have HX := Lib.hid (HP.out.trans (hb.mono (by simp)))
       clear hb
       go_wp2_with fail
       go_ret
       exact ⟨rfl, HX.out⟩)
    | (refine HC0.out.mono ?_
       rintro e w1 ⟨rfl, hb⟩
       have HX := Lib.hid hb
       clear hb
       go_wp2_with fail
       go_ret
       exact ⟨rfl, HX.out⟩)

/-- What holds of the value that was read. -/
structure Yt (w W : World) (y : V) (A : Option Addr) (c g : Nat) : Prop where
  e : Env W
  b : Below w.heap.size w W
  v : Vsl W W.heap.size A y.l
  k : Blk W g 24 #[.int .u8 y.k, .int .i64 y.n, .slice A y.l.length c]
theorem Yt.held {w W W' : World} {x : V} {A : Option Addr} {c g : Nat} (h : Yt w W x A c g) (hb : Below W.heap.size W W') : Yt w W' x A c g :=
  ⟨h.e.step hb, h.b.trans (hb.mono h.b.size), (h.v.held hb).more hb.size, h.k.below hb h.k.lt⟩
theorem yt_start {w W : World} {x : V} {A : Option Addr} {c : Nat} (hv : Env W) (hb : Below w.heap.size w W) (hV : Vsl W W.heap.size A x.l) : Yt w (W.alloc (.cells #[.int .u8 x.k, .int .i64 x.n, .slice A x.l.length c] 24)) x A c W.heap.size :=
  ⟨hv.alloc _, hb.alloc hb.size _, (hV.alloc (Nat.le_refl _) _).more (by simp), Blk.new _ _ _⟩

set_option maxRecDepth 100000 in
set_option maxHeartbeats 8000000 in
theorem back_long (x : V) (A : Option Addr) (c : Nat) (s : ByteArray) (w : World) (hv : Env w) (hV : Vsl w w.heap.size A x.l) (hF : x.Fits) (hlong : 6000 ≤ V.weighs [x] 0 6000) :
    Calls Tryz.prog 9 #[.agg #[.int .u8 x.k, .int .i64 x.n, .slice A x.l.length c], .string s] w fun e w' => e = .returned (.bool true) ∧ Below w.heap.size w w' := by
  have HA := Lib.hid (fun W hW => awake_any W hW)
  have P0 := pt_start (c := c) hv hV
  have hL := long_one x A c _ P0.v hF
  have HP := Lib.hid P0
  rw [World.size_alloc] at hL
  clear P0 hv hV
  rw [decide_eq_true hlong] at hL
  have HLo := Lib.hid hL
  clear hL hlong
  go_enter Tryz.func9, Tryz.ntmps9
  go_wp2_with fail
  refine HLo.out.mono ?_
  rintro e w1 ⟨rfl, hb⟩
  have HQ := Lib.hid (HP.out.held (by simpa using hb))
  clear hb
  go_wp2_with fail
  refine (HA.out _ HQ.out.e).mono ?_
  rintro e w2 ⟨rfl, hb2⟩
  have HX := Lib.hid (HQ.out.held hb2)
  clear hb2
  go_wp2_with fail
  go_ret
  exact ⟨rfl, HX.out.b⟩

set_option maxRecDepth 100000 in
set_option maxHeartbeats 8000000 in
theorem back_wide (x : V) (A : Option Addr) (c : Nat) (s : ByteArray) (w : World) (hv : Env w) (hV : Vsl w w.heap.size A x.l) (hF : x.Fits) (hlong : ¬ 6000 ≤ V.weighs [x] 0 6000) (h20 : 20000 < s.size) :
    Calls Tryz.prog 9 #[.agg #[.int .u8 x.k, .int .i64 x.n, .slice A x.l.length c], .string s] w fun e w' => e = .returned (.bool true) ∧ Below w.heap.size w w' := by
  have HA := Lib.hid (fun W hW => awake_any W hW)
  have P0 := pt_start (c := c) hv hV
  have hL := long_one x A c _ P0.v hF
  have HP := Lib.hid P0
  rw [World.size_alloc] at hL
  clear P0 hv hV
  rw [decide_eq_false hlong] at hL
  have HLo := Lib.hid hL
  have h1 : (20000 : Int) < (s.size : Int) := by omega
  clear hL hlong
  go_enter Tryz.func9, Tryz.ntmps9
  go_wp2_with fail
  refine HLo.out.mono ?_
  rintro e w1 ⟨rfl, hb⟩
  have HQ := Lib.hid (HP.out.held (by simpa using hb))
  clear hb
  go_wp2_with fail
  refine (HA.out _ HQ.out.e).mono ?_
  rintro e w2 ⟨rfl, hb2⟩
  have HX := Lib.hid (HQ.out.held hb2)
  clear hb2
  go_wp2_with fail
  go_ret
  exact ⟨rfl, HX.out.b⟩

set_option maxRecDepth 100000 in
set_option maxHeartbeats 8000000 in
theorem back_okok (x : V) (A : Option Addr) (c : Nat) (s : ByteArray) (w : World) (hv : Env w) (hV : Vsl w w.heap.size A x.l) (hF : x.Fits) (hlong : ¬ 6000 ≤ V.weighs [x] 0 6000) (hsz : x.size < 6000) (h20 : s.size ≤ 20000) (S : ByteArray) (hSh : ∀ W, Pt w W x A c → Calls Tryz.prog 13 #[.agg #[.int .u8 x.k, .int .i64 x.n, .slice A x.l.length c]] W fun e w' => e = .returned (.tuple #[.string S, .int .i64 0]) ∧ Below W.heap.size W w') (hSl : S.size ≤ 65536) (hR1 : ∀ W, Env W → ∃ m, Calls Tryz.prog 17 #[.string S] W (RPost (.ok x 0 m) W)) (y : V) (hys : y.size ≤ 4096) (U : ByteArray) (hR2 : ∀ W, Env W → ∃ m, Calls Tryz.prog 17 #[.string s] W (RPost (.ok y 0 m) W)) (hS2 : ∀ W A2 c2 g, Yt w W y A2 c2 g → Calls Tryz.prog 13 #[.agg #[.int .u8 y.k, .int .i64 y.n, .slice A2 y.l.length c2]] W fun e w' => e = .returned (.tuple #[.string U, .int .i64 0]) ∧ Below W.heap.size W w') (hR3 : ∀ W, Env W → ∃ m, Calls Tryz.prog 17 #[.string U] W (RPost (.ok y 0 m) W)) (hM2 : ∀ W A2 c2 g, Yt w W y A2 c2 g → Calls Tryz.prog 25 #[.agg #[.int .u8 y.k, .int .i64 y.n, .slice A2 y.l.length c2]] W fun e w' => e = .returned (.bool true) ∧ Below W.heap.size W w') :
    Calls Tryz.prog 9 #[.agg #[.int .u8 x.k, .int .i64 x.n, .slice A x.l.length c], .string s] w fun e w' => e = .returned (.bool true) ∧ Below w.heap.size w w' := by
  have HA := Lib.hid (fun W hW => awake_any W hW)
  have P0 := pt_start (c := c) hv hV
  have hL := long_one x A c _ P0.v hF
  have HP := Lib.hid P0
  rw [World.size_alloc] at hL
  clear P0 hv hV
  rw [decide_eq_false hlong] at hL
  have HLo := Lib.hid hL
  have h1 : ¬ (20000 : Int) < (s.size : Int) := by omega
  have HSh := Lib.hid hSh
  clear hL hlong hSh
  have hR1' : ∀ W, Env W → Calls Tryz.prog 17 #[.string S] W fun e w' => ∃ A c, e = .returned (.tuple #[vAgg x A c, .int .i64 0, .int .i64 0]) ∧ Below W.heap.size W w' ∧ Vsp w' (Fr W.heap.size w') A x.l := fun W hW => (hR1 W hW).elim fun m hm => hm
  have HR1 := Lib.hid hR1'
  clear hR1 hR1'
  have h2 : ¬ (65536 : Int) < (S.size : Int) := by omega
  have hR2' : ∀ W, Env W → Calls Tryz.prog 17 #[.string s] W fun e w' => ∃ A c, e = .returned (.tuple #[vAgg y A c, .int .i64 0, .int .i64 0]) ∧ Below W.heap.size W w' ∧ Vsp w' (Fr W.heap.size w') A y.l := fun W hW => (hR2 W hW).elim fun m hm => hm
  have HR2 := Lib.hid hR2'
  clear hR2 hR2'
  have hR3' : ∀ W, Env W → Calls Tryz.prog 17 #[.string U] W fun e w' => ∃ A c, e = .returned (.tuple #[vAgg y A c, .int .i64 0, .int .i64 0]) ∧ Below W.heap.size W w' ∧ Vsp w' (Fr W.heap.size w') A y.l := fun W hW => (hR3 W hW).elim fun m hm => hm
  have HR3 := Lib.hid hR3'
  clear hR3 hR3'
  have HS2 := Lib.hid hS2
  have HM2 := Lib.hid hM2
  clear hS2 hM2
  go_enter Tryz.func9, Tryz.ntmps9
  go_wp2_with fail
  refine HLo.out.mono ?_
  rintro e w1 ⟨rfl, hb⟩
  have HQ := Lib.hid (HP.out.held (by simpa using hb))
  clear hb
  go_wp2_with fail
  refine (HA.out _ HQ.out.e).mono ?_
  rintro e w2 ⟨rfl, hb2⟩
  have hX := HQ.out.held hb2
  obtain ⟨⟨z0, z1, z2⟩, _⟩ := hX.k.three
  have HX := Lib.hid hX
  clear hb2 hX
  go_wp2_with fail
  refine (HSh.out _ HX.out).mono ?_
  rintro e w3 ⟨rfl, hb3⟩
  have HY := Lib.hid (HX.out.held hb3)
  clear hb3 z0 z1 z2
  go_wp2_with fail
  refine (HR1.out _ HY.out.e).mono ?_
  rintro e w4 ⟨A1, c1, he, hb4, hV4⟩
  change e = .returned (.tuple #[.agg #[.int .u8 x.k, .int .i64 x.n, .slice A1 x.l.length c1], .int .i64 0, .int .i64 0]) at he
  subst he
  have hal := (Below.refl w4.heap.size w4).alloc (Nat.le_refl _) (.cells #[.int .u8 x.k, .int .i64 x.n, .slice A1 x.l.length c1] 24)
  have hP5 := (HY.out.held hb4).held hal
  obtain ⟨⟨z0, z1, z2⟩, _⟩ := hP5.k.three
  have hS1 := vsame_eq x A1 A c1 c _ (by omega) ((hV4.fresh_vsl.held hal).more hal.size) hP5.v
  change Calls Tryz.prog 19 #[.agg #[.int .u8 x.k, .int .i64 x.n, .slice A1 x.l.length c1], .agg #[.int .u8 x.k, .int .i64 x.n, .slice A x.l.length c]] _ _ at hS1
  have HS1 := Lib.hid hS1
  have H5 := Lib.hid hP5
  clear hb4 hV4 hal hP5 hS1
  go_wp2_with fail
  refine HS1.out.mono ?_
  rintro e w6 ⟨rfl, hb6⟩
  have HE := Lib.hid (H5.out.held hb6)
  clear hb6 z0 z1 z2 HS1 H5
  go_wp2_with fail
  refine (HR2.out _ HE.out.e).mono ?_
  rintro e w7 ⟨A2, c2, he, hb7, hV7⟩
  change e = .returned (.tuple #[.agg #[.int .u8 y.k, .int .i64 y.n, .slice A2 y.l.length c2], .int .i64 0, .int .i64 0]) at he
  subst he
  have hal := (Below.refl w7.heap.size w7).alloc (Nat.le_refl _) (.cells #[.int .u8 y.k, .int .i64 y.n, .slice A2 y.l.length c2] 24)
  have hQ := Lib.hid (yt_start (c := c2) (HE.out.e.step hb7) (HE.out.b.trans (hb7.mono HE.out.b.size)) hV7.fresh_vsl)
  clear hb7 hV7 hal
  go_wp2_with fail
  refine (HS2.out _ _ _ _ hQ.out).mono ?_
  rintro e w8 ⟨rfl, hb8⟩
  have hQ8 := Lib.hid (hQ.out.held hb8)
  clear hb8
  go_wp2_with fail
  refine (HR3.out _ hQ8.out.e).mono ?_
  rintro e w9 ⟨A3, c3, he, hb9, hV9⟩
  change e = .returned (.tuple #[.agg #[.int .u8 y.k, .int .i64 y.n, .slice A3 y.l.length c3], .int .i64 0, .int .i64 0]) at he
  subst he
  have hal := (Below.refl w9.heap.size w9).alloc (Nat.le_refl _) (.cells #[.int .u8 y.k, .int .i64 y.n, .slice A3 y.l.length c3] 24)
  have hQ9 := (hQ8.out.held hb9).held hal
  obtain ⟨⟨z0, z1, z2⟩, _⟩ := hQ9.k.three
  have hB9 := Blk.new w9 24 #[.int .u8 y.k, .int .i64 y.n, .slice A3 y.l.length c3]
  have hV9' := (hV9.fresh_vsl.held hal).more hal.size
  have H9 := Lib.hid (And.intro hQ9 (And.intro hB9 hV9'))
  clear hb9 hV9 hal hQ9 hB9 hV9'
  go_wp2_with fail
  refine (HM2.out _ _ _ _ H9.out.1).mono ?_
  rintro e wA ⟨rfl, hbA⟩
  clear z0 z1 z2
  have hQA := H9.out.1.held hbA
  have hBA := H9.out.2.1.below hbA H9.out.2.1.lt
  have hVA := (H9.out.2.2.held hbA).more hbA.size
  obtain ⟨⟨z0, z1, z2⟩, _⟩ := hQA.k.three
  obtain ⟨⟨y0, y1, y2⟩, _⟩ := hBA.three
  have hS9 := vsame_eq y A3 A2 c3 c2 _ (by omega) hVA hQA.v
  change Calls Tryz.prog 19 #[.agg #[.int .u8 y.k, .int .i64 y.n, .slice A3 y.l.length c3], .agg #[.int .u8 y.k, .int .i64 y.n, .slice A2 y.l.length c2]] _ _ at hS9
  have HS9 := Lib.hid hS9
  have HA9 := Lib.hid hQA
  clear hbA hQA hBA hVA hS9
  go_wp2_with fail
  refine HS9.out.mono ?_
  rintro e wB ⟨rfl, hbB⟩
  have HB9 := Lib.hid (HA9.out.held hbB)
  clear hbB
  go_wp2_with fail
  go_ret
  exact ⟨rfl, HB9.out.b⟩

set_option maxRecDepth 100000 in
set_option maxHeartbeats 8000000 in
theorem back_okbad (x : V) (A : Option Addr) (c : Nat) (s : ByteArray) (w : World) (hv : Env w) (hV : Vsl w w.heap.size A x.l) (hF : x.Fits) (hlong : ¬ 6000 ≤ V.weighs [x] 0 6000) (hsz : x.size < 6000) (h20 : s.size ≤ 20000) (S : ByteArray) (hSh : ∀ W, Pt w W x A c → Calls Tryz.prog 13 #[.agg #[.int .u8 x.k, .int .i64 x.n, .slice A x.l.length c]] W fun e w' => e = .returned (.tuple #[.string S, .int .i64 0]) ∧ Below W.heap.size W w') (hSl : S.size ≤ 65536) (hR1 : ∀ W, Env W → ∃ m, Calls Tryz.prog 17 #[.string S] W (RPost (.ok x 0 m) W)) (p q : Nat) (hq : q ≠ 0) (hR2 : ∀ W, Env W → Calls Tryz.prog 17 #[.string s] W (RPost (.bad p q) W)) :
    Calls Tryz.prog 9 #[.agg #[.int .u8 x.k, .int .i64 x.n, .slice A x.l.length c], .string s] w fun e w' => e = .returned (.bool true) ∧ Below w.heap.size w w' := by
  have HA := Lib.hid (fun W hW => awake_any W hW)
  have P0 := pt_start (c := c) hv hV
  have hL := long_one x A c _ P0.v hF
  have HP := Lib.hid P0
  rw [World.size_alloc] at hL
  clear P0 hv hV
  rw [decide_eq_false hlong] at hL
  have HLo := Lib.hid hL
  have h1 : ¬ (20000 : Int) < (s.size : Int) := by omega
  have HSh := Lib.hid hSh
  clear hL hlong hSh
  have hR1' : ∀ W, Env W → Calls Tryz.prog 17 #[.string S] W fun e w' => ∃ A c, e = .returned (.tuple #[vAgg x A c, .int .i64 0, .int .i64 0]) ∧ Below W.heap.size W w' ∧ Vsp w' (Fr W.heap.size w') A x.l := fun W hW => (hR1 W hW).elim fun m hm => hm
  have HR1 := Lib.hid hR1'
  clear hR1 hR1'
  have h2 : ¬ (65536 : Int) < (S.size : Int) := by omega
  have HR2 := Lib.hid hR2
  clear hR2
  have q1 : ((q : Int) == 0) = false := beq_eq_false_iff_ne.2 (by omega)
  have q2 : ((q : Int) != 0) = true := bne_iff_ne.2 (by omega)
  go_enter Tryz.func9, Tryz.ntmps9
  go_wp2_with fail
  refine HLo.out.mono ?_
  rintro e w1 ⟨rfl, hb⟩
  have HQ := Lib.hid (HP.out.held (by simpa using hb))
  clear hb
  go_wp2_with fail
  refine (HA.out _ HQ.out.e).mono ?_
  rintro e w2 ⟨rfl, hb2⟩
  have hX := HQ.out.held hb2
  obtain ⟨⟨z0, z1, z2⟩, _⟩ := hX.k.three
  have HX := Lib.hid hX
  clear hb2 hX
  go_wp2_with fail
  refine (HSh.out _ HX.out).mono ?_
  rintro e w3 ⟨rfl, hb3⟩
  have HY := Lib.hid (HX.out.held hb3)
  clear hb3 z0 z1 z2
  go_wp2_with fail
  refine (HR1.out _ HY.out.e).mono ?_
  rintro e w4 ⟨A1, c1, he, hb4, hV4⟩
  change e = .returned (.tuple #[.agg #[.int .u8 x.k, .int .i64 x.n, .slice A1 x.l.length c1], .int .i64 0, .int .i64 0]) at he
  subst he
  have hal := (Below.refl w4.heap.size w4).alloc (Nat.le_refl _) (.cells #[.int .u8 x.k, .int .i64 x.n, .slice A1 x.l.length c1] 24)
  have hP5 := (HY.out.held hb4).held hal
  obtain ⟨⟨z0, z1, z2⟩, _⟩ := hP5.k.three
  have hS1 := vsame_eq x A1 A c1 c _ (by omega) ((hV4.fresh_vsl.held hal).more hal.size) hP5.v
  change Calls Tryz.prog 19 #[.agg #[.int .u8 x.k, .int .i64 x.n, .slice A1 x.l.length c1], .agg #[.int .u8 x.k, .int .i64 x.n, .slice A x.l.length c]] _ _ at hS1
  have HS1 := Lib.hid hS1
  have H5 := Lib.hid hP5
  clear hb4 hV4 hal hP5 hS1
  go_wp2_with fail
  refine HS1.out.mono ?_
  rintro e w6 ⟨rfl, hb6⟩
  have HE := Lib.hid (H5.out.held hb6)
  clear hb6 z0 z1 z2 HS1 H5
  go_wp2_with fail
  refine (HR2.out _ HE.out.e).mono ?_
  rintro e w7 ⟨rfl, hb7⟩
  have HF := Lib.hid ((HE.out.held hb7).alloc (.cells #[.int .u8 0, .int .i64 0, .slice none 0 0] 24))
  clear hb7
  go_wp2_with fail
  refine (same_zero _).mono ?_
  rintro e w8 ⟨rfl, hb8⟩
  have HG := Lib.hid (HF.out.held hb8)
  clear hb8
  go_wp2_with fail
  go_ret
  exact ⟨rfl, HG.out.b⟩

set_option maxRecDepth 100000 in
set_option maxHeartbeats 8000000 in
theorem back_nook (x : V) (A : Option Addr) (c : Nat) (s : ByteArray) (w : World) (hv : Env w) (hV : Vsl w w.heap.size A x.l) (hF : x.Fits) (hlong : ¬ 6000 ≤ V.weighs [x] 0 6000) (hsz : x.size < 6000) (h20 : s.size ≤ 20000) (S : ByteArray) (er : Nat) (her : er ≠ 0) (hSh : ∀ W, Pt w W x A c → Calls Tryz.prog 13 #[.agg #[.int .u8 x.k, .int .i64 x.n, .slice A x.l.length c]] W fun e w' => e = .returned (.tuple #[.string S, .int .i64 (er : Nat)]) ∧ Below W.heap.size W w') (hSl : S.toList.isEmpty = true) (mb : Bool) (hmb : mb = true → er = 5) (hM : ∀ W, Pt w W x A c → Calls Tryz.prog 25 #[.agg #[.int .u8 x.k, .int .i64 x.n, .slice A x.l.length c]] W fun e w' => e = .returned (.bool mb) ∧ Below W.heap.size W w') (y : V) (hys : y.size ≤ 4096) (U : ByteArray) (hR2 : ∀ W, Env W → ∃ m, Calls Tryz.prog 17 #[.string s] W (RPost (.ok y 0 m) W)) (hS2 : ∀ W A2 c2 g, Yt w W y A2 c2 g → Calls Tryz.prog 13 #[.agg #[.int .u8 y.k, .int .i64 y.n, .slice A2 y.l.length c2]] W fun e w' => e = .returned (.tuple #[.string U, .int .i64 0]) ∧ Below W.heap.size W w') (hR3 : ∀ W, Env W → ∃ m, Calls Tryz.prog 17 #[.string U] W (RPost (.ok y 0 m) W)) (hM2 : ∀ W A2 c2 g, Yt w W y A2 c2 g → Calls Tryz.prog 25 #[.agg #[.int .u8 y.k, .int .i64 y.n, .slice A2 y.l.length c2]] W fun e w' => e = .returned (.bool true) ∧ Below W.heap.size W w') :
    Calls Tryz.prog 9 #[.agg #[.int .u8 x.k, .int .i64 x.n, .slice A x.l.length c], .string s] w fun e w' => e = .returned (.bool true) ∧ Below w.heap.size w w' := by
  have HA := Lib.hid (fun W hW => awake_any W hW)
  have P0 := pt_start (c := c) hv hV
  have hL := long_one x A c _ P0.v hF
  have HP := Lib.hid P0
  rw [World.size_alloc] at hL
  clear P0 hv hV
  rw [decide_eq_false hlong] at hL
  have HLo := Lib.hid hL
  have h1 : ¬ (20000 : Int) < (s.size : Int) := by omega
  have HSh := Lib.hid hSh
  clear hL hlong hSh
  have HM := Lib.hid hM
  clear hM
  have e1 : ((er : Int) == 0) = false := beq_eq_false_iff_ne.2 (by omega)
  have e2 : ((er : Int) != 0) = true := bne_iff_ne.2 (by omega)
  have hR2' : ∀ W, Env W → Calls Tryz.prog 17 #[.string s] W fun e w' => ∃ A c, e = .returned (.tuple #[vAgg y A c, .int .i64 0, .int .i64 0]) ∧ Below W.heap.size W w' ∧ Vsp w' (Fr W.heap.size w') A y.l := fun W hW => (hR2 W hW).elim fun m hm => hm
  have HR2 := Lib.hid hR2'
  clear hR2 hR2'
  have hR3' : ∀ W, Env W → Calls Tryz.prog 17 #[.string U] W fun e w' => ∃ A c, e = .returned (.tuple #[vAgg y A c, .int .i64 0, .int .i64 0]) ∧ Below W.heap.size W w' ∧ Vsp w' (Fr W.heap.size w') A y.l := fun W hW => (hR3 W hW).elim fun m hm => hm
  have HR3 := Lib.hid hR3'
  clear hR3 hR3'
  have HS2 := Lib.hid hS2
  have HM2 := Lib.hid hM2
  clear hS2 hM2
  cases mb with
  | false =>
    clear hmb her
    go_enter Tryz.func9, Tryz.ntmps9
    go_wp2_with fail
    refine HLo.out.mono ?_
    rintro e w1 ⟨rfl, hb⟩
    have HQ := Lib.hid (HP.out.held (by simpa using hb))
    clear hb
    go_wp2_with fail
    refine (HA.out _ HQ.out.e).mono ?_
    rintro e w2 ⟨rfl, hb2⟩
    have hX := HQ.out.held hb2
    obtain ⟨⟨z0, z1, z2⟩, _⟩ := hX.k.three
    have HX := Lib.hid hX
    clear hb2 hX
    go_wp2_with fail
    refine (HSh.out _ HX.out).mono ?_
    rintro e w3 ⟨rfl, hb3⟩
    have hY := HX.out.held hb3
    clear hb3 z0 z1 z2
    obtain ⟨⟨z0, z1, z2⟩, _⟩ := hY.k.three
    have HY := Lib.hid hY
    clear hY
    go_wp2_with fail
    refine (HM.out _ HY.out).mono ?_
    rintro e w4 ⟨rfl, hb4⟩
    have HE := Lib.hid (HY.out.held hb4)
    clear hb4 z0 z1 z2
    go_wp2_with fail
    refine (HR2.out _ HE.out.e).mono ?_
    rintro e w7 ⟨A2, c2, he, hb7, hV7⟩
    change e = .returned (.tuple #[.agg #[.int .u8 y.k, .int .i64 y.n, .slice A2 y.l.length c2], .int .i64 0, .int .i64 0]) at he
    subst he
    have hal := (Below.refl w7.heap.size w7).alloc (Nat.le_refl _) (.cells #[.int .u8 y.k, .int .i64 y.n, .slice A2 y.l.length c2] 24)
    have hQ := Lib.hid (yt_start (c := c2) (HE.out.e.step hb7) (HE.out.b.trans (hb7.mono HE.out.b.size)) hV7.fresh_vsl)
    clear hb7 hV7 hal
    go_wp2_with fail
    refine (HS2.out _ _ _ _ hQ.out).mono ?_
    rintro e w8 ⟨rfl, hb8⟩
    have hQ8 := Lib.hid (hQ.out.held hb8)
    clear hb8
    go_wp2_with fail
    refine (HR3.out _ hQ8.out.e).mono ?_
    rintro e w9 ⟨A3, c3, he, hb9, hV9⟩
    change e = .returned (.tuple #[.agg #[.int .u8 y.k, .int .i64 y.n, .slice A3 y.l.length c3], .int .i64 0, .int .i64 0]) at he
    subst he
    have hal := (Below.refl w9.heap.size w9).alloc (Nat.le_refl _) (.cells #[.int .u8 y.k, .int .i64 y.n, .slice A3 y.l.length c3] 24)
    have hQ9 := (hQ8.out.held hb9).held hal
    obtain ⟨⟨z0, z1, z2⟩, _⟩ := hQ9.k.three
    have hB9 := Blk.new w9 24 #[.int .u8 y.k, .int .i64 y.n, .slice A3 y.l.length c3]
    have hV9' := (hV9.fresh_vsl.held hal).more hal.size
    have H9 := Lib.hid (And.intro hQ9 (And.intro hB9 hV9'))
    clear hb9 hV9 hal hQ9 hB9 hV9'
    go_wp2_with fail
    refine (HM2.out _ _ _ _ H9.out.1).mono ?_
    rintro e wA ⟨rfl, hbA⟩
    clear z0 z1 z2
    have hQA := H9.out.1.held hbA
    have hBA := H9.out.2.1.below hbA H9.out.2.1.lt
    have hVA := (H9.out.2.2.held hbA).more hbA.size
    obtain ⟨⟨z0, z1, z2⟩, _⟩ := hQA.k.three
    obtain ⟨⟨y0, y1, y2⟩, _⟩ := hBA.three
    have hS9 := vsame_eq y A3 A2 c3 c2 _ (by omega) hVA hQA.v
    change Calls Tryz.prog 19 #[.agg #[.int .u8 y.k, .int .i64 y.n, .slice A3 y.l.length c3], .agg #[.int .u8 y.k, .int .i64 y.n, .slice A2 y.l.length c2]] _ _ at hS9
    have HS9 := Lib.hid hS9
    have HA9 := Lib.hid hQA
    clear hbA hQA hBA hVA hS9
    go_wp2_with fail
    refine HS9.out.mono ?_
    rintro e wB ⟨rfl, hbB⟩
    have HB9 := Lib.hid (HA9.out.held hbB)
    clear hbB
    go_wp2_with fail
    go_ret
    exact ⟨rfl, HB9.out.b⟩
  | true =>
    have e5 : ((er : Int) == 5) = true := beq_iff_eq.2 (by have := hmb rfl; omega)
    have e6 : ((er : Int) != 5) = false := by rw [bne, e5]; rfl
    clear hmb her
    go_enter Tryz.func9, Tryz.ntmps9
    go_wp2_with fail
    refine HLo.out.mono ?_
    rintro e w1 ⟨rfl, hb⟩
    have HQ := Lib.hid (HP.out.held (by simpa using hb))
    clear hb
    go_wp2_with fail
    refine (HA.out _ HQ.out.e).mono ?_
    rintro e w2 ⟨rfl, hb2⟩
    have hX := HQ.out.held hb2
    obtain ⟨⟨z0, z1, z2⟩, _⟩ := hX.k.three
    have HX := Lib.hid hX
    clear hb2 hX
    go_wp2_with fail
    refine (HSh.out _ HX.out).mono ?_
    rintro e w3 ⟨rfl, hb3⟩
    have hY := HX.out.held hb3
    clear hb3 z0 z1 z2
    obtain ⟨⟨z0, z1, z2⟩, _⟩ := hY.k.three
    have HY := Lib.hid hY
    clear hY
    go_wp2_with fail
    refine (HM.out _ HY.out).mono ?_
    rintro e w4 ⟨rfl, hb4⟩
    have HE := Lib.hid (HY.out.held hb4)
    clear hb4 z0 z1 z2
    go_wp2_with fail
    refine (HR2.out _ HE.out.e).mono ?_
    rintro e w7 ⟨A2, c2, he, hb7, hV7⟩
    change e = .returned (.tuple #[.agg #[.int .u8 y.k, .int .i64 y.n, .slice A2 y.l.length c2], .int .i64 0, .int .i64 0]) at he
    subst he
    have hal := (Below.refl w7.heap.size w7).alloc (Nat.le_refl _) (.cells #[.int .u8 y.k, .int .i64 y.n, .slice A2 y.l.length c2] 24)
    have hQ := Lib.hid (yt_start (c := c2) (HE.out.e.step hb7) (HE.out.b.trans (hb7.mono HE.out.b.size)) hV7.fresh_vsl)
    clear hb7 hV7 hal
    go_wp2_with fail
    refine (HS2.out _ _ _ _ hQ.out).mono ?_
    rintro e w8 ⟨rfl, hb8⟩
    have hQ8 := Lib.hid (hQ.out.held hb8)
    clear hb8
    go_wp2_with fail
    refine (HR3.out _ hQ8.out.e).mono ?_
    rintro e w9 ⟨A3, c3, he, hb9, hV9⟩
    change e = .returned (.tuple #[.agg #[.int .u8 y.k, .int .i64 y.n, .slice A3 y.l.length c3], .int .i64 0, .int .i64 0]) at he
    subst he
    have hal := (Below.refl w9.heap.size w9).alloc (Nat.le_refl _) (.cells #[.int .u8 y.k, .int .i64 y.n, .slice A3 y.l.length c3] 24)
    have hQ9 := (hQ8.out.held hb9).held hal
    obtain ⟨⟨z0, z1, z2⟩, _⟩ := hQ9.k.three
    have hB9 := Blk.new w9 24 #[.int .u8 y.k, .int .i64 y.n, .slice A3 y.l.length c3]
    have hV9' := (hV9.fresh_vsl.held hal).more hal.size
    have H9 := Lib.hid (And.intro hQ9 (And.intro hB9 hV9'))
    clear hb9 hV9 hal hQ9 hB9 hV9'
    go_wp2_with fail
    refine (HM2.out _ _ _ _ H9.out.1).mono ?_
    rintro e wA ⟨rfl, hbA⟩
    clear z0 z1 z2
    have hQA := H9.out.1.held hbA
    have hBA := H9.out.2.1.below hbA H9.out.2.1.lt
    have hVA := (H9.out.2.2.held hbA).more hbA.size
    obtain ⟨⟨z0, z1, z2⟩, _⟩ := hQA.k.three
    obtain ⟨⟨y0, y1, y2⟩, _⟩ := hBA.three
    have hS9 := vsame_eq y A3 A2 c3 c2 _ (by omega) hVA hQA.v
    change Calls Tryz.prog 19 #[.agg #[.int .u8 y.k, .int .i64 y.n, .slice A3 y.l.length c3], .agg #[.int .u8 y.k, .int .i64 y.n, .slice A2 y.l.length c2]] _ _ at hS9
    have HS9 := Lib.hid hS9
    have HA9 := Lib.hid hQA
    clear hbA hQA hBA hVA hS9
    go_wp2_with fail
    refine HS9.out.mono ?_
    rintro e wB ⟨rfl, hbB⟩
    have HB9 := Lib.hid (HA9.out.held hbB)
    clear hbB
    go_wp2_with fail
    go_ret
    exact ⟨rfl, HB9.out.b⟩

set_option maxRecDepth 100000 in
set_option maxHeartbeats 8000000 in
theorem back_nobad (x : V) (A : Option Addr) (c : Nat) (s : ByteArray) (w : World) (hv : Env w) (hV : Vsl w w.heap.size A x.l) (hF : x.Fits) (hlong : ¬ 6000 ≤ V.weighs [x] 0 6000) (hsz : x.size < 6000) (h20 : s.size ≤ 20000) (S : ByteArray) (er : Nat) (her : er ≠ 0) (hSh : ∀ W, Pt w W x A c → Calls Tryz.prog 13 #[.agg #[.int .u8 x.k, .int .i64 x.n, .slice A x.l.length c]] W fun e w' => e = .returned (.tuple #[.string S, .int .i64 (er : Nat)]) ∧ Below W.heap.size W w') (hSl : S.toList.isEmpty = true) (mb : Bool) (hmb : mb = true → er = 5) (hM : ∀ W, Pt w W x A c → Calls Tryz.prog 25 #[.agg #[.int .u8 x.k, .int .i64 x.n, .slice A x.l.length c]] W fun e w' => e = .returned (.bool mb) ∧ Below W.heap.size W w') (p q : Nat) (hq : q ≠ 0) (hR2 : ∀ W, Env W → Calls Tryz.prog 17 #[.string s] W (RPost (.bad p q) W)) :
    Calls Tryz.prog 9 #[.agg #[.int .u8 x.k, .int .i64 x.n, .slice A x.l.length c], .string s] w fun e w' => e = .returned (.bool true) ∧ Below w.heap.size w w' := by
  have HA := Lib.hid (fun W hW => awake_any W hW)
  have P0 := pt_start (c := c) hv hV
  have hL := long_one x A c _ P0.v hF
  have HP := Lib.hid P0
  rw [World.size_alloc] at hL
  clear P0 hv hV
  rw [decide_eq_false hlong] at hL
  have HLo := Lib.hid hL
  have h1 : ¬ (20000 : Int) < (s.size : Int) := by omega
  have HSh := Lib.hid hSh
  clear hL hlong hSh
  have HM := Lib.hid hM
  clear hM
  have e1 : ((er : Int) == 0) = false := beq_eq_false_iff_ne.2 (by omega)
  have e2 : ((er : Int) != 0) = true := bne_iff_ne.2 (by omega)
  have HR2 := Lib.hid hR2
  clear hR2
  have q1 : ((q : Int) == 0) = false := beq_eq_false_iff_ne.2 (by omega)
  have q2 : ((q : Int) != 0) = true := bne_iff_ne.2 (by omega)
  cases mb with
  | false =>
    clear hmb her
    go_enter Tryz.func9, Tryz.ntmps9
    go_wp2_with fail
    refine HLo.out.mono ?_
    rintro e w1 ⟨rfl, hb⟩
    have HQ := Lib.hid (HP.out.held (by simpa using hb))
    clear hb
    go_wp2_with fail
    refine (HA.out _ HQ.out.e).mono ?_
    rintro e w2 ⟨rfl, hb2⟩
    have hX := HQ.out.held hb2
    obtain ⟨⟨z0, z1, z2⟩, _⟩ := hX.k.three
    have HX := Lib.hid hX
    clear hb2 hX
    go_wp2_with fail
    refine (HSh.out _ HX.out).mono ?_
    rintro e w3 ⟨rfl, hb3⟩
    have hY := HX.out.held hb3
    clear hb3 z0 z1 z2
    obtain ⟨⟨z0, z1, z2⟩, _⟩ := hY.k.three
    have HY := Lib.hid hY
    clear hY
    go_wp2_with fail
    refine (HM.out _ HY.out).mono ?_
    rintro e w4 ⟨rfl, hb4⟩
    have HE := Lib.hid (HY.out.held hb4)
    clear hb4 z0 z1 z2
    go_wp2_with fail
    refine (HR2.out _ HE.out.e).mono ?_
    rintro e w7 ⟨rfl, hb7⟩
    have HF := Lib.hid ((HE.out.held hb7).alloc (.cells #[.int .u8 0, .int .i64 0, .slice none 0 0] 24))
    clear hb7
    go_wp2_with fail
    refine (same_zero _).mono ?_
    rintro e w8 ⟨rfl, hb8⟩
    have HG := Lib.hid (HF.out.held hb8)
    clear hb8
    go_wp2_with fail
    go_ret
    exact ⟨rfl, HG.out.b⟩
  | true =>
    have e5 : ((er : Int) == 5) = true := beq_iff_eq.2 (by have := hmb rfl; omega)
    have e6 : ((er : Int) != 5) = false := by rw [bne, e5]; rfl
    clear hmb her
    go_enter Tryz.func9, Tryz.ntmps9
    go_wp2_with fail
    refine HLo.out.mono ?_
    rintro e w1 ⟨rfl, hb⟩
    have HQ := Lib.hid (HP.out.held (by simpa using hb))
    clear hb
    go_wp2_with fail
    refine (HA.out _ HQ.out.e).mono ?_
    rintro e w2 ⟨rfl, hb2⟩
    have hX := HQ.out.held hb2
    obtain ⟨⟨z0, z1, z2⟩, _⟩ := hX.k.three
    have HX := Lib.hid hX
    clear hb2 hX
    go_wp2_with fail
    refine (HSh.out _ HX.out).mono ?_
    rintro e w3 ⟨rfl, hb3⟩
    have hY := HX.out.held hb3
    clear hb3 z0 z1 z2
    obtain ⟨⟨z0, z1, z2⟩, _⟩ := hY.k.three
    have HY := Lib.hid hY
    clear hY
    go_wp2_with fail
    refine (HM.out _ HY.out).mono ?_
    rintro e w4 ⟨rfl, hb4⟩
    have HE := Lib.hid (HY.out.held hb4)
    clear hb4 z0 z1 z2
    go_wp2_with fail
    refine (HR2.out _ HE.out.e).mono ?_
    rintro e w7 ⟨rfl, hb7⟩
    have HF := Lib.hid ((HE.out.held hb7).alloc (.cells #[.int .u8 0, .int .i64 0, .slice none 0 0] 24))
    clear hb7
    go_wp2_with fail
    refine (same_zero _).mono ?_
    rintro e w8 ⟨rfl, hb8⟩
    have HG := Lib.hid (HF.out.held hb8)
    clear hb8
    go_wp2_with fail
    go_ret
    exact ⟨rfl, HG.out.b⟩

end Go.Proofs.YtbhekkkijomglaaGreatDoor
