/- The walk of the statement VtextBlanks: where nothing is compared. -/
import Derived.Test.YtbhekkkijomglaaGreatDoorBlkA
namespace Go.Proofs.YtbhekkkijomglaaGreatDoor
open Go.RowKit

set_option maxRecDepth 100000 in
set_option maxHeartbeats 4000000 in
theorem blanks_wide (s : ByteArray) (which n : Int) (w : World) (hv : Env w) (h20 : 20000 < s.size) :
    Calls Tryz.prog 10 #[.string s, .int .u16 which, .int .u8 n] w fun e w' => e = .returned (.bool true) ∧ Below w.heap.size w w' := by
  have h1 : (20000 : Int) < (s.size : Int) := by omega
  have HA := Lib.hid (fun W hW => awake_any W hW)
  clear h20
  go_enter Tryz.func10, Tryz.ntmps10
  go_wp2_with fail
  refine (HA.out _ hv).mono ?_
  rintro e w1 ⟨rfl, hb1⟩
  have HX := Lib.hid hb1
  clear hb1
  go_wp2_with fail
  go_ret
  exact ⟨rfl, HX.out⟩

set_option maxRecDepth 100000 in
set_option maxHeartbeats 4000000 in
theorem blanks_wrong (s : ByteArray) (which n : Int) (w : World) (hv : Env w) (h20 : s.size ≤ 20000) (xa : List MarkT) (p e : Nat) (hx : marks 0 s.data.toList = (xa, p, e)) (he : e ≠ 0) :
    Calls Tryz.prog 10 #[.string s, .int .u16 which, .int .u8 n] w fun e w' => e = .returned (.bool true) ∧ Below w.heap.size w w' := by
  have h1 : ¬ (20000 : Int) < (s.size : Int) := by omega
  have HA := Lib.hid (fun W hW => awake_any W hW)
  have HL := Lib.hid (fun W hW => all_wrong s xa p e (by omega) hx he W hW)
  have e1 : ((e : Int) == 0) = false := beq_eq_false_iff_ne.2 (by omega)
  have e2 : ((e : Int) != 0) = true := bne_iff_ne.2 (by omega)
  clear hx he h20
  go_enter Tryz.func10, Tryz.ntmps10
  go_wp2_with fail
  refine (HA.out _ hv).mono ?_
  rintro e' w1 ⟨rfl, hb1⟩
  have HX := Lib.hid hb1
  clear hb1
  go_wp2_with fail
  refine (HL.out _ (hv.step HX.out)).mono ?_
  rintro e' w2 ⟨A, m, c, rfl, hb2⟩
  have HY := Lib.hid (HX.out.trans (hb2.mono HX.out.size))
  clear hb2
  go_wp2_with fail
  go_ret
  exact ⟨rfl, HY.out⟩

set_option maxRecDepth 100000 in
set_option maxHeartbeats 8000000 in
theorem blanks_end (s : ByteArray) (which : Int) (n : Nat) (w : World) (hv : Env w) (h20 : s.size ≤ 20000) (hw0 : 0 ≤ which) (hw1 : which ≤ 65535) (hn1 : n ≤ 255) (xa : List MarkT) (hx : marks 0 s.data.toList = (xa, 0, 0)) (hxl : xa.length ≤ 20000)
    (k : Nat) (hk : which.tmod ((xa.length : Int) + 1) = (k : Int)) (hkn : k = xa.length) (y : V) (hy : y.size ≤ 1000000) (hR1 : ∀ W, Env W → ∃ m, Calls Tryz.prog 17 #[.string s] W (RPost (.ok y 0 m) W))
    (hR2 : ∀ W, Env W → ∃ m, Calls Tryz.prog 17 #[.string (s ++ bs (repsL [10] n))] W (RPost (.ok y 0 m) W)) :
    Calls Tryz.prog 10 #[.string s, .int .u16 which, .int .u8 n] w fun e w' => e = .returned (.bool true) ∧ Below w.heap.size w w' := by
  have h1 : ¬ (20000 : Int) < (s.size : Int) := by omega
  have HA := Lib.hid (fun W hW => awake_any W hW)
  have HL := Lib.hid (fun W hW => all_right s xa (by omega) hx W hW)
  have HT := Lib.hid (fun W => times_any ⟨#[10]⟩ n W (by omega) (by decide))
  change Hid (∀ W, Calls Tryz.prog 21 #[.string ⟨#[10]⟩, .int .i64 n] W fun e w' => e = .returned (.string (bs (repsL [10] n))) ∧ Below W.heap.size W w') at HT
  have HK := Lib.hid hk
  clear hx hk
  have hR1' : ∀ W, Env W → Calls Tryz.prog 17 #[.string s] W fun e w' => ∃ A c, e = .returned (.tuple #[.agg #[.int .u8 y.k, .int .i64 y.n, .slice A y.l.length c], .int .i64 0, .int .i64 0]) ∧ Below W.heap.size W w' ∧ Vsl w' w'.heap.size A y.l := fun W hW => (hR1 W hW).elim fun m hm => hm.mono fun e w' ⟨A, c, h1, h2, h3⟩ => ⟨A, c, h1, h2, h3.fresh_vsl⟩
  have hR2' : ∀ W, Env W → Calls Tryz.prog 17 #[.string (s ++ bs (repsL [10] n))] W fun e w' => ∃ A c, e = .returned (.tuple #[.agg #[.int .u8 y.k, .int .i64 y.n, .slice A y.l.length c], .int .i64 0, .int .i64 0]) ∧ Below W.heap.size W w' ∧ Vsp w' (Fr W.heap.size w') A y.l := fun W hW => (hR2 W hW).elim fun m hm => hm.mono fun e w' ⟨A, c, h1, h2, h3⟩ => ⟨A, c, h1, h2, h3⟩
  have HR1 := Lib.hid hR1'; have HR2 := Lib.hid hR2'
  clear hR1 hR1' hR2 hR2'
  have hbs : (bs (repsL [10] n)).size ≤ 255 := by rw [bs_size, repsL_length]; simpa using hn1
  go_enter Tryz.func10, Tryz.ntmps10
  go_wp2_with fail
  refine (HA.out _ hv).mono ?_
  rintro e' w1 ⟨rfl, hb1⟩
  have HX := Lib.hid hb1
  clear hb1
  go_wp2_with fail
  refine (HL.out _ (hv.step HX.out)).mono ?_
  rintro e' w2 ⟨A, c, rfl, hb2, _⟩
  have HY := Lib.hid (HX.out.trans (hb2.mono HX.out.size))
  clear hb2
  have hrem := HK.out
  have hkge : xa.length ≤ k := by omega
  have hkle : k ≤ xa.length := by omega
  clear hkn
  go_wp2_with fail
  go_quiet (fail)
  go_wp2_with fail
  refine (HT.out _).mono ?_
  rintro e' w3 ⟨rfl, hb3⟩
  have HZ := Lib.hid (show Below w.heap.size w w3 from (below_drewN HY.out _).trans (hb3.mono HY.out.size))
  clear hb3
  generalize bs (repsL [10] n) = bl at *
  go_wp2_with fail
  refine (HR1.out _ (hv.step HZ.out)).mono ?_
  rintro e' w4 ⟨A1, c1, rfl, hb4, hV4⟩
  have H4 := Lib.hid (And.intro (HZ.out.trans (hb4.mono HZ.out.size)) hV4)
  clear hb4 hV4
  have hB0 : ∀ W, Below (w4.alloc (.cells #[.int .u8 y.k, .int .i64 y.n, .slice A1 y.l.length c1] 24)).heap.size (w4.alloc (.cells #[.int .u8 y.k, .int .i64 y.n, .slice A1 y.l.length c1] 24)) W → Blk W w4.heap.size 24 #[.int .u8 y.k, .int .i64 y.n, .slice A1 y.l.length c1] ∧ Below w4.heap.size w4 W := fun W hW => by
    have hal := (Below.refl w4.heap.size w4).alloc (Nat.le_refl _) (.cells #[.int .u8 y.k, .int .i64 y.n, .slice A1 y.l.length c1] 24)
    exact ⟨(Blk.new w4 _ _).below hW (by simp), hal.trans (hW.mono hal.size)⟩
  have EA : Env (w4.alloc (.cells #[.int .u8 y.k, .int .i64 y.n, .slice A1 y.l.length c1] 24)).drew := ((hv.step H4.out.1).alloc (.cells #[.int .u8 y.k, .int .i64 y.n, .slice A1 y.l.length c1] 24)).q ⟨1, rfl⟩
  have EB : Env ((w4.alloc (.cells #[.int .u8 y.k, .int .i64 y.n, .slice A1 y.l.length c1] 24)).alloc zV).drew := (((hv.step H4.out.1).alloc (.cells #[.int .u8 y.k, .int .i64 y.n, .slice A1 y.l.length c1] 24)).alloc zV).q ⟨1, rfl⟩
  have HRA : Hid (Calls Tryz.prog 17 #[.string (s ++ bl)] (w4.alloc (.cells #[.int .u8 y.k, .int .i64 y.n, .slice A1 y.l.length c1] 24)).drew fun e w6 => ∃ A2 c2, e = .returned (.tuple #[.agg #[.int .u8 y.k, .int .i64 y.n, .slice A2 y.l.length c2], .int .i64 0, .int .i64 0]) ∧ Hid ((Blk w6 w4.heap.size 24 #[.int .u8 y.k, .int .i64 y.n, .slice A1 y.l.length c1] ∧ Below w4.heap.size w4 w6) ∧ Vsp w6 (Fr (w4.heap.size + 1) w6) A2 y.l)) := by
    refine (HR2.out _ EA).mono fun e w6 ⟨A2, c2, h1, h2, h3⟩ => ?_
    have e1 : (w4.alloc (.cells #[.int .u8 y.k, .int .i64 y.n, .slice A1 y.l.length c1] 24)).drew.heap.size = w4.heap.size + 1 := World.size_alloc _ _
    rw [e1] at h2 h3
    exact ⟨A2, c2, h1, hB0 w6 (by rw [World.size_alloc]; exact ⟨h2.os, h2.tape, h2.output, h2.size, h2.block⟩), h3⟩
  have HRB : Hid (Calls Tryz.prog 17 #[.string (s ++ bl)] ((w4.alloc (.cells #[.int .u8 y.k, .int .i64 y.n, .slice A1 y.l.length c1] 24)).alloc zV).drew fun e w6 => ∃ A2 c2, e = .returned (.tuple #[.agg #[.int .u8 y.k, .int .i64 y.n, .slice A2 y.l.length c2], .int .i64 0, .int .i64 0]) ∧ ((w6.cell? ⟨w4.heap.size + 1, 0, none⟩ = some (.int .u8 0) ∧ w6.cell? ⟨w4.heap.size + 1, 1, none⟩ = some (.int .i64 0) ∧ w6.cell? ⟨w4.heap.size + 1, 2, none⟩ = some (.slice none 0 0)) ∧ w6.frozen? ⟨w4.heap.size + 1, 0, none⟩ = false ∧ w6.frozen? ⟨w4.heap.size + 1, 1, none⟩ = false ∧ w6.frozen? ⟨w4.heap.size + 1, 2, none⟩ = false) ∧ Hid (Blk w6 (w4.heap.size + 1) 24 #[.int .u8 0, .int .i64 0, .slice none 0 0] ∧ (Blk w6 w4.heap.size 24 #[.int .u8 y.k, .int .i64 y.n, .slice A1 y.l.length c1] ∧ Below w4.heap.size w4 w6) ∧ Vsp w6 (Fr (w4.heap.size + 2) w6) A2 y.l)) := by
    refine (HR2.out _ EB).mono fun e w6 ⟨A2, c2, h1, h2, h3⟩ => ?_
    have e1 : ((w4.alloc (.cells #[.int .u8 y.k, .int .i64 y.n, .slice A1 y.l.length c1] 24)).alloc zV).drew.heap.size = w4.heap.size + 2 := by show ((w4.alloc (.cells #[.int .u8 y.k, .int .i64 y.n, .slice A1 y.l.length c1] 24)).alloc zV).heap.size = _; simp
    rw [e1] at h2 h3
    have h2' : Below ((w4.alloc (.cells #[.int .u8 y.k, .int .i64 y.n, .slice A1 y.l.length c1] 24)).alloc zV).heap.size ((w4.alloc (.cells #[.int .u8 y.k, .int .i64 y.n, .slice A1 y.l.length c1] 24)).alloc zV) w6 := by
      rw [World.size_alloc, World.size_alloc]
      exact ⟨h2.os, h2.tape, h2.output, h2.size, h2.block⟩
    have hz := (Blk.new (w4.alloc (.cells #[.int .u8 y.k, .int .i64 y.n, .slice A1 y.l.length c1] 24)) 24 #[.int .u8 0, .int .i64 0, .slice none 0 0]).below h2' (by simp)
    rw [World.size_alloc] at hz
    have hal := (Below.refl (w4.alloc (.cells #[.int .u8 y.k, .int .i64 y.n, .slice A1 y.l.length c1] 24)).heap.size (w4.alloc (.cells #[.int .u8 y.k, .int .i64 y.n, .slice A1 y.l.length c1] 24))).alloc (Nat.le_refl _) zV
    exact ⟨A2, c2, h1, hz.three, hz, hB0 w6 (hal.trans (h2'.mono hal.size)), h3⟩
  clear hB0 EA EB
  go_wp2_with fail
  rename_i K hKK
  have HK : Hid (∀ (q0 q1 q3 q4 q5 q6 q7 q8 q9 q10 q11 q12 q19 q20 q21 q22 q23 q24 q25 q26 q27 q28 q29 q30 q31 q32 q33 q34 q35 q36 q37 q38 q39 q40 q41 q42 q43 q44 q45 q46 q47 q48 q49 q50 q51 q52 q53 q54 q55 q56 q57 q58 q59 q60 q61 q62 q63 q64 q65 q66 q67 q68 q69 q70 q71 q72 q73 q74 q75 q76 q77 q78 q79 q80 q81 q82 q83 q84 q85 q86 q87 q88 q89 q90 q91 q92 q93 q94 q95 q96 q97 q98 q99 q100 q101 q102 q103 q104 q105 q106 q107 q108 q109 q110 q111 q112 q113 q114 : Value) (pb : Nat) (A2 : Option Addr) (c2 : Nat) (W : World), (Blk W w4.heap.size 24 #[.int .u8 y.k, .int .i64 y.n, .slice A1 y.l.length c1] ∧ Below w4.heap.size w4 W) → Blk W pb 24 #[.int .u8 y.k, .int .i64 y.n, .slice A2 y.l.length c2] → Vsl W W.heap.size A2 y.l → K { tmps := #[q0, q1, .int .u8 n, q3, q4, q5, q6, q7, q8, q9, q10, q11, q12, .pointer (some ⟨w4.heap.size, 0, none⟩), .int .i64 0, .int .i64 0, .pointer (some ⟨pb, 0, none⟩), .int .i64 0, .int .i64 0, q19, q20, q21, q22, q23, q24, q25, q26, q27, q28, q29, q30, q31, q32, q33, q34, q35, q36, q37, q38, q39, q40, q41, q42, q43, q44, q45, q46, q47, q48, q49, q50, q51, q52, q53, q54, q55, q56, q57, q58, q59, q60, q61, q62, q63, q64, q65, q66, q67, q68, q69, q70, q71, q72, q73, q74, q75, q76, q77, q78, q79, q80, q81, q82, q83, q84, q85, q86, q87, q88, q89, q90, q91, q92, q93, q94, q95, q96, q97, q98, q99, q100, q101, q102, q103, q104, q105, q106, q107, q108, q109, q110, q111, q112, q113, q114], defers := [] } W) := by
    intro q0 q1 q3 q4 q5 q6 q7 q8 q9 q10 q11 q12 q19 q20 q21 q22 q23 q24 q25 q26 q27 q28 q29 q30 q31 q32 q33 q34 q35 q36 q37 q38 q39 q40 q41 q42 q43 q44 q45 q46 q47 q48 q49 q50 q51 q52 q53 q54 q55 q56 q57 q58 q59 q60 q61 q62 q63 q64 q65 q66 q67 q68 q69 q70 q71 q72 q73 q74 q75 q76 q77 q78 q79 q80 q81 q82 q83 q84 q85 q86 q87 q88 q89 q90 q91 q92 q93 q94 q95 q96 q97 q98 q99 q100 q101 q102 q103 q104 q105 q106 q107 q108 q109 q110 q111 q112 q113 q114 pb A2 c2 W ⟨k1, hb4⟩ k2 v2
    refine hKK _ _ ?_
    have hb := H4.out.1.trans (hb4.mono H4.out.1.size)
    have v1 := (H4.out.2.held hb4).more hb4.size
    clear hKK HRA HRB H4 hb4
    obtain ⟨⟨z0, z1, z2⟩, _⟩ := k1.three
    obtain ⟨⟨y0, y1, y2⟩, _⟩ := k2.three
    have hS := vsame_eq y A1 A2 c1 c2 W hy v1 v2
    change Calls Tryz.prog 19 #[.agg #[.int .u8 y.k, .int .i64 y.n, .slice A1 y.l.length c1], .agg #[.int .u8 y.k, .int .i64 y.n, .slice A2 y.l.length c2]] _ _ at hS
    have HS := Lib.hid hS
    have HB := Lib.hid hb
    clear hS hb k1 k2 v1 v2
    go_wp2_with fail
    refine HS.out.mono ?_
    rintro e wS ⟨rfl, hbS⟩
    have HX := Lib.hid (HB.out.trans (hbS.mono HB.out.size))
    clear hbS
    go_wp2_with fail
    go_ret
    exact ⟨rfl, HX.out⟩
  clear hKK
  go_region_with (first
    | (go_at_call 17; first
      | (refine HRA.out.mono ?_; rintro e' w6 ⟨A2, c2, rfl, HX6⟩)
      | (refine HRB.out.mono ?_; rintro e' w6 ⟨A2, c2, rfl, ⟨⟨y0, y1, y2⟩, x0, x1, x2⟩, HX6⟩)))
  all_goals first
    | (refine HK.out _ _ _ _ _ _ _ _ _ _ _ _ _ _ _ _ _ _ _ _ _ _ _ _ _ _ _ _ _ _ _ _ _ _ _ _ _ _ _ _ _ _ _ _ _ _ _ _ _ _ _ _ _ _ _ _ _ _ _ _ _ _ _ _ _ _ _ _ _ _ _ _ _ _ _ _ _ _ _ _ _ _ _ _ _ _ _ _ _ _ _ _ _ _ _ _ _ _ _ _ _ _ _ _ _ _ _ _ w6.heap.size A2 c2 _ ?_ ?_ ?_
       · exact ⟨HX6.out.1.1.alloc _, HX6.out.1.2.alloc HX6.out.1.2.size _⟩
       · exact Blk.new _ _ _
       · exact (HX6.out.2.fresh_vsl.alloc (Nat.le_refl _) _).more (by simp))
    | (refine HK.out _ _ _ _ _ _ _ _ _ _ _ _ _ _ _ _ _ _ _ _ _ _ _ _ _ _ _ _ _ _ _ _ _ _ _ _ _ _ _ _ _ _ _ _ _ _ _ _ _ _ _ _ _ _ _ _ _ _ _ _ _ _ _ _ _ _ _ _ _ _ _ _ _ _ _ _ _ _ _ _ _ _ _ _ _ _ _ _ _ _ _ _ _ _ _ _ _ _ _ _ _ _ _ _ _ _ _ _ (w4.heap.size + 1) A2 c2 _ ?_ ?_ ?_
       · have e0 : ∀ i, w4.heap.size ≠ (⟨w4.heap.size + 1, i, none⟩ : Addr).block := fun i => by show w4.heap.size ≠ w4.heap.size + 1; omega
         exact ⟨((HX6.out.2.1.1.far (e0 0) _).far (e0 1) _).far (e0 2) _, ((HX6.out.2.1.2.setCell (p := ⟨w4.heap.size + 1, 0, none⟩) (Nat.le_succ _) _).setCell (p := ⟨w4.heap.size + 1, 1, none⟩) (Nat.le_succ _) _).setCell (p := ⟨w4.heap.size + 1, 2, none⟩) (Nat.le_succ _) _⟩
       · have h := ((HX6.out.1.set_ 0 (.int .u8 y.k)).set_ 1 (.int .i64 y.n)).set_ 2 (.slice A2 y.l.length c2)
         simpa using h
       · exact (fresh_three (R := w4.heap.size + 1) HX6.out.2.2 (Nat.lt_succ_self _) (Nat.le_refl _) _ _ _).fresh_vsl)
end Go.Proofs.YtbhekkkijomglaaGreatDoor
