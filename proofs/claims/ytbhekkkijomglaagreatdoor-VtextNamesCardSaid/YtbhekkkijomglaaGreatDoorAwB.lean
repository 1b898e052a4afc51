/- awake: the examples are as they are told. -/
import Derived.Test.YtbhekkkijomglaaGreatDoorShVZ
import Derived.Deep.RegionHeld
namespace Go.Proofs.YtbhekkkijomglaaGreatDoor
open Go.RowKit

theorem show_ex (A : Option Addr) (c : Nat) (w : World) (hv : Env w) (hV : Vsl w w.heap.size A exV.l) : Calls Tryz.prog 13 #[.agg #[.int .u8 3, .int .i64 0, .slice A 2 c]] w fun e w' => ∃ S : ByteArray, e = .returned (.tuple #[.string S, .int .i64 0]) ∧ (S.toList == [60, 49, 32, 91, 116, 114, 117, 101, 32, 45, 50, 93, 62]) = true ∧ Below w.heap.size w w' := by
  have h := vshow_any exV A c w hv hV (by decide +kernel)
  rw [ex_show] at h
  exact h.mono fun e w' ⟨h1, h2⟩ => ⟨bs [60, 49, 32, 91, 116, 114, 117, 101, 32, 45, 50, 93, 62], h1, by rw [Lib.toList_data, bs_list]; decide, h2⟩
theorem read_ex (w : World) (hv : Env w) : Calls Tryz.prog 17 #[.string ⟨#[60, 49, 32, 91, 116, 114, 117, 101, 32, 45, 50, 93, 32, 62]⟩] w fun e w' => ∃ A c, e = .returned (.tuple #[.agg #[.int .u8 3, .int .i64 0, .slice A 2 c], .int .i64 0, .int .i64 0]) ∧ Vsl w' w'.heap.size A exV.l ∧ Below w.heap.size w w' := by
  obtain ⟨m, hm⟩ := ex_read
  have h := read_any (bs [60, 49, 32, 91, 116, 114, 117, 101, 32, 45, 50, 93, 32, 62]) w (by rw [bs_size]; decide) hv
  rw [bs_list, hm] at h
  exact h.mono fun e w' ⟨A, c, h1, h2, h3⟩ => ⟨A, c, h1, h3.fresh_vsl, h2⟩
theorem part_ex (w : World) (hv : Env w) : Calls Tryz.prog 18 #[.string ⟨#[40, 101, 113, 32, 53, 41]⟩, .int .i64 3] w fun e w' => ∃ A c, e = .returned (.tuple #[.agg #[.int .u8 1, .int .i64 5, .slice A 0 c], .int .i64 5, .int .i64 0, .int .i64 0]) ∧ Below w.heap.size w w' := by
  obtain ⟨m, hm⟩ := ex_part
  have h := part_any (bs [40, 101, 113, 32, 53, 41]) 3 w (by rw [bs_size]; decide) hv
  rw [bs_list, hm] at h
  exact h.mono fun e w' ⟨A, c, h1, h2, h3⟩ => ⟨A, c, h1, h2⟩

/-- What holds while awake asks. -/
structure Aw (w W : World) (A1 A5 : Option Addr) (c1 c5 g3 g6 : Nat) : Prop where
  e : Env W
  b : Below w.heap.size w W
  v : Vsl W W.heap.size A1 exV.l
  k3 : Blk W g3 24 #[.int .u8 3, .int .i64 0, .slice A1 2 c1]
  k6 : Blk W g6 24 #[.int .u8 1, .int .i64 5, .slice A5 0 c5]
theorem Aw.held {w W W' : World} {A1 A5 : Option Addr} {c1 c5 g3 g6 : Nat} (h : Aw w W A1 A5 c1 c5 g3 g6) (hb : Below W.heap.size W W') : Aw w W' A1 A5 c1 c5 g3 g6 :=
  ⟨h.e.step hb, h.b.trans (hb.mono h.b.size), (h.v.held hb).more hb.size, h.k3.below hb h.k3.lt, h.k6.below hb h.k6.lt⟩
theorem Aw.drew {w W : World} {A1 A5 : Option Addr} {c1 c5 g3 g6 : Nat} (h : Aw w W A1 A5 c1 c5 g3 g6) : Aw w W.drew A1 A5 c1 c5 g3 g6 := h.held (Below.refl _ _).drew
/-- The cells of the two values that are held, and what holds. -/
abbrev AwC (w W : World) (A1 A5 : Option Addr) (c1 c5 g3 g6 : Nat) : Prop :=
  (W.cell? ⟨g3, 0, none⟩ = some (.int .u8 3) ∧ W.cell? ⟨g3, 1, none⟩ = some (.int .i64 0) ∧ W.cell? ⟨g3, 2, none⟩ = some (.slice A1 2 c1)) ∧ (W.cell? ⟨g6, 0, none⟩ = some (.int .u8 1) ∧ W.cell? ⟨g6, 1, none⟩ = some (.int .i64 5) ∧ W.cell? ⟨g6, 2, none⟩ = some (.slice A5 0 c5)) ∧ Hid (Aw w W A1 A5 c1 c5 g3 g6)
theorem Aw.all {w W : World} {A1 A5 : Option Addr} {c1 c5 g3 g6 : Nat} (h : Aw w W A1 A5 c1 c5 g3 g6) : AwC w W A1 A5 c1 c5 g3 g6 := ⟨h.k3.three.1, h.k6.three.1, h⟩

set_option maxRecDepth 100000 in
set_option maxHeartbeats 16000000 in
theorem awake_any (w : World) (hv : Env w) : Calls Tryz.prog 12 #[] w fun e w' => e = .returned (.bool true) ∧ Below w.heap.size w w' := by
  go_enter Tryz.func12, Tryz.ntmps12
  go_wp2_with fail
  refine (ex_any _).mono ?_
  rintro e w1 ⟨⟨A, c, rfl, hV1⟩, hb1⟩
  have HB1 := Lib.hid (And.intro hb1 hV1)
  clear hb1 hV1
  go_wp2_with fail
  refine (show_ex A c _ (hv.step HB1.out.1) HB1.out.2).mono ?_
  rintro e w2 ⟨S, rfl, hS, hb2⟩
  have HB2 := Lib.hid (HB1.out.1.trans (hb2.mono HB1.out.1.size))
  clear hb2 HB1
  go_wp2_with fail
  refine (read_ex _ (hv.step HB2.out)).mono ?_
  rintro e w3 ⟨A1, c1, rfl, hV3, hb3⟩
  have HB3 := Lib.hid (And.intro (HB2.out.trans (hb3.mono HB2.out.size)) hV3)
  clear hb3 hV3 HB2
  go_wp2_with fail
  refine (part_ex _ ((hv.step HB3.out.1).alloc _)).mono ?_
  rintro e w4 ⟨A5, c5, rfl, hb4⟩
  have k3 := ((Blk.new w3 24 #[.int .u8 3, .int .i64 0, .slice A1 2 c1]).below hb4 (by simp)).alloc (.cells #[.int .u8 1, .int .i64 5, .slice A5 0 c5] 24)
  have k6 := Blk.new w4 24 #[.int .u8 1, .int .i64 5, .slice A5 0 c5]
  have b34 : Below w3.heap.size w3 (w4.alloc (.cells #[.int .u8 1, .int .i64 5, .slice A5 0 c5] 24)) := (((Below.refl w3.heap.size w3).alloc (Nat.le_refl _) _).trans (hb4.mono (by simp))).alloc (by have := hb4.size; simp at this; omega) _
  have hAw : Aw w (w4.alloc (.cells #[.int .u8 1, .int .i64 5, .slice A5 0 c5] 24)) A1 A5 c1 c5 w3.heap.size w4.heap.size :=
    ⟨(hv.step HB3.out.1).step b34, HB3.out.1.trans (b34.mono HB3.out.1.size), (HB3.out.2.held b34).more b34.size, k3, k6⟩
  have HE : Hid (∀ W, Aw w W A1 A5 c1 c5 w3.heap.size w4.heap.size → Calls Tryz.prog 28 #[] W fun e w' => ∃ A c, e = .returned (.agg #[.int .u8 3, .int .i64 0, .slice A 2 c]) ∧ AwC w w' A1 A5 c1 c5 w3.heap.size w4.heap.size ∧ Hid (Vsl w' w'.heap.size A exV.l)) := fun W hW =>
    (ex_any W).mono fun e w' ⟨⟨A, c, h1, h2⟩, h3⟩ => ⟨A, c, h1, (hW.held h3).all, h2⟩
  have HS1 : Hid (∀ W A c, Aw w W A1 A5 c1 c5 w3.heap.size w4.heap.size → Vsl W W.heap.size A exV.l → Calls Tryz.prog 19 #[.agg #[.int .u8 3, .int .i64 0, .slice A1 2 c1], .agg #[.int .u8 3, .int .i64 0, .slice A 2 c]] W fun e w' => e = .returned (.bool true) ∧ AwC w w' A1 A5 c1 c5 w3.heap.size w4.heap.size) := fun W A c hW hA =>
    (vsame_eq exV A1 A c1 c W (by decide +kernel) hW.v hA).mono fun e w' ⟨h1, h2⟩ => ⟨h1, (hW.held h2).all⟩
  have HN : Hid (∀ W, Aw w W A1 A5 c1 c5 w3.heap.size w4.heap.size → Calls Tryz.prog 22 #[.int .i64 5] W fun e w' => e = .returned (.agg #[.int .u8 1, .int .i64 5, .slice none 0 0]) ∧ AwC w w' A1 A5 c1 c5 w3.heap.size w4.heap.size) := fun W hW =>
    (tnum_any 5 W).mono fun e w' ⟨h1, h2⟩ => ⟨h1, (hW.held h2).all⟩
  have HS2 : Hid (∀ W, Aw w W A1 A5 c1 c5 w3.heap.size w4.heap.size → Calls Tryz.prog 19 #[.agg #[.int .u8 1, .int .i64 5, .slice A5 0 c5], .agg #[.int .u8 1, .int .i64 5, .slice none 0 0]] W fun e w' => e = .returned (.bool true) ∧ AwC w w' A1 A5 c1 c5 w3.heap.size w4.heap.size) := fun W hW =>
    (vsame_eq (.mk 1 5 []) A5 none c5 0 W (by decide +kernel) (.emp _) (.emp _)).mono fun e w' ⟨h1, h2⟩ => ⟨h1, (hW.held h2).all⟩
  have HR1 : Hid (∀ W, Aw w W A1 A5 c1 c5 w3.heap.size w4.heap.size → Calls Tryz.prog 29 #[.string ⟨#[60, 49]⟩, .int .i64 2, .int .i64 4] W fun e w' => e = .returned (.bool true) ∧ AwC w w' A1 A5 c1 c5 w3.heap.size w4.heap.size) := fun W hW =>
    (refused_any [60, 49] 2 4 (by decide) ex_r1 W hW.e).mono fun e w' ⟨h1, h2⟩ => ⟨h1, (hW.held h2).all⟩
  have HR2 : Hid (∀ W, Aw w W A1 A5 c1 c5 w3.heap.size w4.heap.size → Calls Tryz.prog 29 #[.string ⟨#[60, 49, 93]⟩, .int .i64 2, .int .i64 3] W fun e w' => e = .returned (.bool true) ∧ AwC w w' A1 A5 c1 c5 w3.heap.size w4.heap.size) := fun W hW =>
    (refused_any [60, 49, 93] 2 3 (by decide) ex_r2 W hW.e).mono fun e w' ⟨h1, h2⟩ => ⟨h1, (hW.held h2).all⟩
  have HR3 : Hid (∀ W, Aw w W A1 A5 c1 c5 w3.heap.size w4.heap.size → Calls Tryz.prog 29 #[.string ⟨#[116, 114, 117, 116, 104]⟩, .int .i64 0, .int .i64 3] W fun e w' => e = .returned (.bool true) ∧ AwC w w' A1 A5 c1 c5 w3.heap.size w4.heap.size) := fun W hW =>
    (refused_any [116, 114, 117, 116, 104] 0 3 (by decide) ex_r3 W hW.e).mono fun e w' ⟨h1, h2⟩ => ⟨h1, (hW.held h2).all⟩
  have HR4 : Hid (∀ W, Aw w W A1 A5 c1 c5 w3.heap.size w4.heap.size → Calls Tryz.prog 29 #[.string ⟨#[49, 32, 50]⟩, .int .i64 2, .int .i64 6] W fun e w' => e = .returned (.bool true) ∧ AwC w w' A1 A5 c1 c5 w3.heap.size w4.heap.size) := fun W hW =>
    (refused_any [49, 32, 50] 2 6 (by decide) ex_r4 W hW.e).mono fun e w' ⟨h1, h2⟩ => ⟨h1, (hW.held h2).all⟩
  obtain ⟨⟨y0, y1, y2⟩, ⟨x0, x1, x2⟩, HW⟩ := hAw.drew.all
  clear k3 k6 b34 hAw hb4 HB3 hv
  go_wp2_with fail
  rename_i K hKK
  have HK : Hid (∀ (q1 q2 q3 q4 q5 q6 q7 q8 q9 q10 q11 q12 q13 q14 q15 q16 q17 q18 q19 q20 q21 q22 q23 q24 q25 q26 q27 q28 q29 q30 q31 q32 q33 q34 q35 q36 q37 q38 q39 q40 q41 q42 q43 q44 q45 q46 q47 q48 q49 q50 q51 q52 q53 q54 q55 q56 q57 q58 q59 q60 q61 q62 q63 q64 q65 q66 q67 q68 q69 q70 q71 q72 q73 : Value) (W : World), Below w.heap.size w W → K { tmps := #[.bool true, q1, q2, q3, q4, q5, q6, q7, q8, q9, q10, q11, q12, q13, q14, q15, q16, q17, q18, q19, q20, q21, q22, q23, q24, q25, q26, q27, q28, q29, q30, q31, q32, q33, q34, q35, q36, q37, q38, q39, q40, q41, q42, q43, q44, q45, q46, q47, q48, q49, q50, q51, q52, q53, q54, q55, q56, q57, q58, q59, q60, q61, q62, q63, q64, q65, q66, q67, q68, q69, q70, q71, q72, q73], defers := [] } W) := by
    intro q1 q2 q3 q4 q5 q6 q7 q8 q9 q10 q11 q12 q13 q14 q15 q16 q17 q18 q19 q20 q21 q22 q23 q24 q25 q26 q27 q28 q29 q30 q31 q32 q33 q34 q35 q36 q37 q38 q39 q40 q41 q42 q43 q44 q45 q46 q47 q48 q49 q50 q51 q52 q53 q54 q55 q56 q57 q58 q59 q60 q61 q62 q63 q64 q65 q66 q67 q68 q69 q70 q71 q72 q73 W hb
    refine hKK _ _ ?_
    clear hKK y0 y1 y2 x0 x1 x2 HE HS1 HN HS2 HR1 HR2 HR3 HR4 HW
    go_wp2_with fail
    go_ret
    exact ⟨rfl, hb⟩
  clear hKK
  go_region_held (fun W => (W.cell? ⟨w3.heap.size, 0, none⟩ = some (.int .u8 3) ∧ W.cell? ⟨w3.heap.size, 1, none⟩ = some (.int .i64 0) ∧ W.cell? ⟨w3.heap.size, 2, none⟩ = some (.slice A1 2 c1)) ∧ (W.cell? ⟨w4.heap.size, 0, none⟩ = some (.int .u8 1) ∧ W.cell? ⟨w4.heap.size, 1, none⟩ = some (.int .i64 5) ∧ W.cell? ⟨w4.heap.size, 2, none⟩ = some (.slice A5 0 c5))) (exact ⟨⟨y0, y1, y2⟩, ⟨x0, x1, x2⟩⟩) (first
    | (go_at_call 28; refine (HE.out _ HW.out).mono ?_; rintro e' wE ⟨A2, c2, rfl, ⟨⟨y0, y1, y2⟩, ⟨x0, x1, x2⟩, HW⟩, HV2⟩)
    | (go_at_call 19; refine (HS1.out _ _ _ HW.out HV2.out).mono ?_; clear HS1; rintro e' wS ⟨rfl, ⟨y0, y1, y2⟩, ⟨x0, x1, x2⟩, HW⟩)
    | (go_at_call 19; refine (HS2.out _ HW.out).mono ?_; rintro e' wT ⟨rfl, ⟨y0, y1, y2⟩, ⟨x0, x1, x2⟩, HW⟩)
    | (go_at_call 22; refine (HN.out _ HW.out).mono ?_; rintro e' wN ⟨rfl, ⟨y0, y1, y2⟩, ⟨x0, x1, x2⟩, HW⟩)
    | (go_at_call 29; first
      | (refine (HR1.out _ HW.out).mono ?_; clear HR1; rintro e' wR ⟨rfl, ⟨y0, y1, y2⟩, ⟨x0, x1, x2⟩, HW⟩)
      | (refine (HR2.out _ HW.out).mono ?_; clear HR2; rintro e' wR ⟨rfl, ⟨y0, y1, y2⟩, ⟨x0, x1, x2⟩, HW⟩)
      | (refine (HR3.out _ HW.out).mono ?_; clear HR3; rintro e' wR ⟨rfl, ⟨y0, y1, y2⟩, ⟨x0, x1, x2⟩, HW⟩)
      | (refine (HR4.out _ HW.out).mono ?_; clear HR4; rintro e' wR ⟨rfl, ⟨y0, y1, y2⟩, ⟨x0, x1, x2⟩, HW⟩)))
  all_goals (
    refine HK.out _ _ _ _ _ _ _ _ _ _ _ _ _ _ _ _ _ _ _ _ _ _ _ _ _ _ _ _ _ _ _ _ _ _ _ _ _ _ _ _ _ _ _ _ _ _ _ _ _ _ _ _ _ _ _ _ _ _ _ _ _ _ _ _ _ _ _ _ _ _ _ _ _ _ ?_
    exact HW.out.b)
end Go.Proofs.YtbhekkkijomglaaGreatDoor
