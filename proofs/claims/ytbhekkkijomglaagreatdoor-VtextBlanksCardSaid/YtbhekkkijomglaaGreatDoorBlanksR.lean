/- The walk of the statement VtextBlanks: both texts are refused; at the end. -/
import Derived.Test.YtbhekkkijomglaaGreatDoorBlanksV
namespace Go.Proofs.YtbhekkkijomglaaGreatDoor
open Go.RowKit

set_option maxRecDepth 100000 in
set_option maxHeartbeats 8000000 in
theorem blanks_end_bad (s : ByteArray) (which : Int) (n : Nat) (w : World) (hv : Env w) (h20 : s.size ≤ 20000) (hw0 : 0 ≤ which) (hw1 : which ≤ 65535) (hn1 : n ≤ 255) (xa : List MarkT) (hx : marks 0 s.data.toList = (xa, 0, 0)) (hxl : xa.length ≤ 20000)
    (k : Nat) (hk : which.tmod ((xa.length : Int) + 1) = (k : Int)) (hkn : k = xa.length) (p p' e : Nat) (he : e ≠ 0) (hp : p ≤ 1000000) (hpp : p' = p ∨ (p' ≠ p ∧ p' = p + n))
    (hR1 : ∀ W, Env W → Calls Tryz.prog 17 #[.string s] W (RPost (.bad p e) W))
    (hR2 : ∀ W, Env W → Calls Tryz.prog 17 #[.string (s ++ bs (repsL [10] n))] W (RPost (.bad p' e) W)) :
    Calls Tryz.prog 10 #[.string s, .int .u16 which, .int .u8 n] w fun e w' => e = .returned (.bool true) ∧ Below w.heap.size w w' := by
  have h1 : ¬ (20000 : Int) < (s.size : Int) := by omega
  have HA := Lib.hid (fun W hW => awake_any W hW)
  have HL := Lib.hid (fun W hW => all_right s xa (by omega) hx W hW)
  have HT := Lib.hid (fun W => times_any ⟨#[10]⟩ n W (by omega) (by decide))
  change Hid (∀ W, Calls Tryz.prog 21 #[.string ⟨#[10]⟩, .int .i64 n] W fun e w' => e = .returned (.string (bs (repsL [10] n))) ∧ Below W.heap.size W w') at HT
  have HK0 := Lib.hid hk
  have hR1' : ∀ W, Env W → Calls Tryz.prog 17 #[.string s] W (fun en w' => en = .returned (.tuple #[.agg #[.int .u8 0, .int .i64 0, .slice none 0 0], .int .i64 p, .int .i64 e]) ∧ Below W.heap.size W w') := hR1
  have hR2' : ∀ W, Env W → Calls Tryz.prog 17 #[.string (s ++ bs (repsL [10] n))] W (fun en w' => en = .returned (.tuple #[.agg #[.int .u8 0, .int .i64 0, .slice none 0 0], .int .i64 p', .int .i64 e]) ∧ Below W.heap.size W w') := hR2
  have HR1 := Lib.hid hR1'; have HR2 := Lib.hid hR2'
  have hbs : (bs (repsL [10] n)).size ≤ 255 := by rw [bs_size, repsL_length]; simpa using hn1
  have d1 : ((e : Int) == 0) = false := beq_eq_false_iff_ne.2 (by omega)
  have d2 : ((e : Int) != 0) = true := bne_iff_ne.2 (by omega)
  have HPP := Lib.hid hpp
  clear hx hk hR1 hR1' hR2 hR2' hpp he
  go_enter Tryz.func10, Tryz.ntmps10
  go_wp2_with fail
  refine (HA.out _ hv).mono ?_
  rintro e' w1 ⟨rfl, hb1⟩
  have HX := Lib.hid hb1
  clear hb1
  go_wp2_with fail
  refine (HL.out _ (hv.step HX.out)).mono ?_
  rintro e' w2 ⟨A, c, rfl, hb2, _⟩
  have HY := Lib.hid (HX.out.trans (hb2.mono HX.out.size))
  clear hb2
  have hrem := HK0.out
  have hkge : xa.length ≤ k := by omega
  have hkle : k ≤ xa.length := by omega
  clear hkn
  go_wp2_with fail
  go_quiet (fail)
  go_wp2_with fail
  refine (HT.out _).mono ?_
  rintro e' w3 ⟨rfl, hb3⟩
  have HZ := Lib.hid (show Below w.heap.size w w3 from (below_drewN HY.out _).trans (hb3.mono HY.out.size))
  clear hb3
  generalize bs (repsL [10] n) = bl at *
  go_wp2_with fail
  refine (HR1.out _ (hv.step HZ.out)).mono ?_
  rintro e' w4 ⟨rfl, hb4⟩
  have H4 := Lib.hid (HZ.out.trans (hb4.mono HZ.out.size))
  clear hb4
  have hB0 : ∀ W, Below (w4.alloc zV).heap.size (w4.alloc zV) W → Blk W w4.heap.size 24 #[.int .u8 0, .int .i64 0, .slice none 0 0] ∧ Below w4.heap.size w4 W := fun W hW => by
    have hal := (Below.refl w4.heap.size w4).alloc (Nat.le_refl _) zV
    exact ⟨(Blk.new w4 _ _).below hW (by simp), hal.trans (hW.mono hal.size)⟩
  have EA : Env (w4.alloc zV).drew := ((hv.step H4.out).alloc zV).q ⟨1, rfl⟩
  have EB : Env ((w4.alloc zV).alloc zV).drew := (((hv.step H4.out).alloc zV).alloc zV).q ⟨1, rfl⟩
  have HRA : Hid (Calls Tryz.prog 17 #[.string (s ++ bl)] (w4.alloc zV).drew fun en w6 => en = .returned (.tuple #[.agg #[.int .u8 0, .int .i64 0, .slice none 0 0], .int .i64 p', .int .i64 e]) ∧ Hid (Blk w6 w4.heap.size 24 #[.int .u8 0, .int .i64 0, .slice none 0 0] ∧ Below w4.heap.size w4 w6)) := by
    refine (HR2.out _ EA).mono fun en w6 ⟨h1, h2⟩ => ?_
    have e1 : (w4.alloc zV).drew.heap.size = w4.heap.size + 1 := World.size_alloc _ _
    rw [e1] at h2
    exact ⟨h1, hB0 w6 (by rw [World.size_alloc]; exact ⟨h2.os, h2.tape, h2.output, h2.size, h2.block⟩)⟩
  have HRB : Hid (Calls Tryz.prog 17 #[.string (s ++ bl)] ((w4.alloc zV).alloc zV).drew fun en w6 => en = .returned (.tuple #[.agg #[.int .u8 0, .int .i64 0, .slice none 0 0], .int .i64 p', .int .i64 e]) ∧ ((w6.cell? ⟨w4.heap.size + 1, 0, none⟩ = some (.int .u8 0) ∧ w6.cell? ⟨w4.heap.size + 1, 1, none⟩ = some (.int .i64 0) ∧ w6.cell? ⟨w4.heap.size + 1, 2, none⟩ = some (.slice none 0 0)) ∧ w6.frozen? ⟨w4.heap.size + 1, 0, none⟩ = false ∧ w6.frozen? ⟨w4.heap.size + 1, 1, none⟩ = false ∧ w6.frozen? ⟨w4.heap.size + 1, 2, none⟩ = false) ∧ Hid (Blk w6 (w4.heap.size + 1) 24 #[.int .u8 0, .int .i64 0, .slice none 0 0] ∧ (Blk w6 w4.heap.size 24 #[.int .u8 0, .int .i64 0, .slice none 0 0] ∧ Below w4.heap.size w4 w6))) := by
    refine (HR2.out _ EB).mono fun en w6 ⟨h1, h2⟩ => ?_
    have e1 : ((w4.alloc zV).alloc zV).drew.heap.size = w4.heap.size + 2 := by show ((w4.alloc zV).alloc zV).heap.size = _; simp
    rw [e1] at h2
    have h2' : Below ((w4.alloc zV).alloc zV).heap.size ((w4.alloc zV).alloc zV) w6 := by
      rw [World.size_alloc, World.size_alloc]
      exact ⟨h2.os, h2.tape, h2.output, h2.size, h2.block⟩
    have hz := (Blk.new (w4.alloc zV) 24 #[.int .u8 0, .int .i64 0, .slice none 0 0]).below h2' (by simp)
    rw [World.size_alloc] at hz
    have hal := (Below.refl (w4.alloc zV).heap.size (w4.alloc zV)).alloc (Nat.le_refl _) zV
    exact ⟨h1, hz.three, hz, hB0 w6 (hal.trans (h2'.mono hal.size))⟩
  clear hB0 EA EB
  have hw3 : IntKind.i64.wrap ((p : Int) + (n : Int)) = (p : Int) + (n : Int) := IntWalk.i64_in _ ⟨by omega, by omega⟩
  go_wp2_with fail
  rename_i K hKK
  have HK : Hid (∀ (q0 q1 q3 q4 q5 q6 q7 q8 q9 q10 q11 q12 q19 q20 q21 q22 q23 q24 q25 q26 q27 q28 q29 q30 q31 q32 q33 q34 q35 q36 q37 q38 q39 q40 q41 q42 q43 q44 q45 q46 q47 q48 q49 q50 q51 q52 q53 q54 q55 q56 q57 q58 q59 q60 q61 q62 q63 q64 q65 q66 q67 q68 q69 q70 q71 q72 q73 q74 q75 q76 q77 q78 q79 q80 q81 q82 q83 q84 q85 q86 q87 q88 q89 q90 q91 q92 q93 q94 q95 q96 q97 q98 q99 q100 q101 q102 q103 q104 q105 q106 q107 q108 q109 q110 q111 q112 q113 q114 : Value) (pb : Nat) (W : World), (Blk W w4.heap.size 24 #[.int .u8 0, .int .i64 0, .slice none 0 0] ∧ Below w4.heap.size w4 W) → Blk W pb 24 #[.int .u8 0, .int .i64 0, .slice none 0 0] → K { tmps := #[q0, q1, .int .u8 n, q3, q4, q5, q6, q7, q8, q9, q10, q11, q12, .pointer (some ⟨w4.heap.size, 0, none⟩), .int .i64 p, .int .i64 e, .pointer (some ⟨pb, 0, none⟩), .int .i64 p', .int .i64 e, q19, q20, q21, q22, q23, q24, q25, q26, q27, q28, q29, q30, q31, q32, q33, q34, q35, q36, q37, q38, q39, q40, q41, q42, q43, q44, q45, q46, q47, q48, q49, q50, q51, q52, q53, q54, q55, q56, q57, q58, q59, q60, q61, q62, q63, q64, q65, q66, q67, q68, q69, q70, q71, q72, q73, q74, q75, q76, q77, q78, q79, q80, q81, q82, q83, q84, q85, q86, q87, q88, q89, q90, q91, q92, q93, q94, q95, q96, q97, q98, q99, q100, q101, q102, q103, q104, q105, q106, q107, q108, q109, q110, q111, q112, q113, q114], defers := [] } W) := by
    intro q0 q1 q3 q4 q5 q6 q7 q8 q9 q10 q11 q12 q19 q20 q21 q22 q23 q24 q25 q26 q27 q28 q29 q30 q31 q32 q33 q34 q35 q36 q37 q38 q39 q40 q41 q42 q43 q44 q45 q46 q47 q48 q49 q50 q51 q52 q53 q54 q55 q56 q57 q58 q59 q60 q61 q62 q63 q64 q65 q66 q67 q68 q69 q70 q71 q72 q73 q74 q75 q76 q77 q78 q79 q80 q81 q82 q83 q84 q85 q86 q87 q88 q89 q90 q91 q92 q93 q94 q95 q96 q97 q98 q99 q100 q101 q102 q103 q104 q105 q106 q107 q108 q109 q110 q111 q112 q113 q114 pb W ⟨k1, hb4⟩ k2
    refine hKK _ _ ?_
    have hb := H4.out.trans (hb4.mono H4.out.size)
    clear hKK HRA HRB H4 hb4
    obtain ⟨⟨z0, z1, z2⟩, _⟩ := k1.three
    obtain ⟨⟨y0, y1, y2⟩, _⟩ := k2.three
    have HS := Lib.hid (same_zero W)
    have HB := Lib.hid hb
    clear hb k1 k2
    rcases HPP.out with h5 | ⟨h5, h6⟩
    · have g1 : ((p' : Int) == (p : Int)) = true := beq_iff_eq.2 (by omega)
      clear h5 HPP
      go_wp2_with fail
      refine HS.out.mono ?_
      rintro e' wS ⟨rfl, hbS⟩
      have HX := Lib.hid (HB.out.trans (hbS.mono HB.out.size))
      clear hbS
      go_wp2_with fail
      go_ret
      exact ⟨rfl, HX.out⟩
    · have g1 : ((p' : Int) == (p : Int)) = false := beq_eq_false_iff_ne.2 (by omega)
      have g2 : ((p' : Int) == (p : Int) + (n : Int)) = true := beq_iff_eq.2 (by omega)
      clear h5 h6 HPP
      go_wp2_with fail
      refine HS.out.mono ?_
      rintro e' wS ⟨rfl, hbS⟩
      have HX := Lib.hid (HB.out.trans (hbS.mono HB.out.size))
      clear hbS
      go_wp2_with fail
      go_ret
      exact ⟨rfl, HX.out⟩
  clear hKK
  go_region_with (first
    | (go_at_call 17; first
      | (refine HRA.out.mono ?_; rintro e' w6 ⟨rfl, HX6⟩)
      | (refine HRB.out.mono ?_; rintro e' w6 ⟨rfl, ⟨⟨y0, y1, y2⟩, x0, x1, x2⟩, HX6⟩)))
  all_goals first
    | (refine HK.out _ _ _ _ _ _ _ _ _ _ _ _ _ _ _ _ _ _ _ _ _ _ _ _ _ _ _ _ _ _ _ _ _ _ _ _ _ _ _ _ _ _ _ _ _ _ _ _ _ _ _ _ _ _ _ _ _ _ _ _ _ _ _ _ _ _ _ _ _ _ _ _ _ _ _ _ _ _ _ _ _ _ _ _ _ _ _ _ _ _ _ _ _ _ _ _ _ _ _ _ _ _ _ _ _ _ _ _ w6.heap.size _ ?_ ?_
       · exact ⟨HX6.out.1.alloc _, HX6.out.2.alloc HX6.out.2.size _⟩
       · exact Blk.new _ _ _)
    | (refine HK.out _ _ _ _ _ _ _ _ _ _ _ _ _ _ _ _ _ _ _ _ _ _ _ _ _ _ _ _ _ _ _ _ _ _ _ _ _ _ _ _ _ _ _ _ _ _ _ _ _ _ _ _ _ _ _ _ _ _ _ _ _ _ _ _ _ _ _ _ _ _ _ _ _ _ _ _ _ _ _ _ _ _ _ _ _ _ _ _ _ _ _ _ _ _ _ _ _ _ _ _ _ _ _ _ _ _ _ _ (w4.heap.size + 1) _ ?_ ?_
       · have e0 : ∀ i, w4.heap.size ≠ (⟨w4.heap.size + 1, i, none⟩ : Addr).block := fun i => by show w4.heap.size ≠ w4.heap.size + 1; omega
         exact ⟨((HX6.out.2.1.far (e0 0) _).far (e0 1) _).far (e0 2) _, ((HX6.out.2.2.setCell (p := ⟨w4.heap.size + 1, 0, none⟩) (Nat.le_succ _) _).setCell (p := ⟨w4.heap.size + 1, 1, none⟩) (Nat.le_succ _) _).setCell (p := ⟨w4.heap.size + 1, 2, none⟩) (Nat.le_succ _) _⟩
       · have h := ((HX6.out.1.set_ 0 (.int .u8 0)).set_ 1 (.int .i64 0)).set_ 2 (.slice none 0 0)
         simpa using h)
end Go.Proofs.YtbhekkkijomglaaGreatDoor
