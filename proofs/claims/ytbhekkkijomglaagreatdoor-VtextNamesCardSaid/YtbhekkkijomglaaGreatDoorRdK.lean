/- The walk of Part: refused; and whatever text, whatever place. -/
import Derived.Test.YtbhekkkijomglaaGreatDoorRdIZ
namespace Go.Proofs.YtbhekkkijomglaaGreatDoor
open Go.RowKit

set_option maxRecDepth 100000 in
set_option maxHeartbeats 8000000 in
theorem part_bad (s : ByteArray) (at_ : Nat) (w : World) (hs : s.size ≤ 1048576) (ha : at_ ≤ s.size) (p1 e1 : Nat)
    (hC : ∀ W, W = (w.alloc zV).alloc (.cells #[.string s, .int .i64 at_, .int .i64 0, .int .i64 0, .int .i64 0] 80) → Calls Tryz.prog 39 #[.agg #[.pointer (some ⟨w.heap.size + 1, 0, none⟩), .int .i64 1], .int .i64 1] W (VBad s (w.heap.size + 1) p1 e1 W)) :
    Calls Tryz.prog 18 #[.string s, .int .i64 at_] w (PPost (.bad p1 e1) w) := by
  have h0 : ¬ (at_ : Int) < 0 := by omega
  have h1 : ¬ (s.size : Int) < (at_ : Int) := by omega
  have HC := Lib.hid (hC _ rfl)
  clear hC hs ha
  go_enter Tryz.func18, Tryz.ntmps18
  go_wp2_with fail
  refine HC.out.mono ?_
  rintro e' w3 ⟨uk, un, a4, m4, rfl, hR, hg⟩
  obtain ⟨hz, h2, h3, h4⟩ := part_held hg hR (.int .u8 uk) (.int .i64 un) (.slice none 0 0)
  obtain ⟨⟨z0, z1, z2⟩, f0, f1, f2⟩ := hz.three
  obtain ⟨⟨y0, y1, y2⟩, g0, g1, g2⟩ := h2.three
  have c1 := h3.cell 3
  have c2 := h3.cell 4
  simp at c1 c2
  have e0 : ∀ i, w.heap.size + 1 ≠ (⟨w.heap.size, i, none⟩ : Addr).block := fun i => by show w.heap.size + 1 ≠ w.heap.size; omega
  have k1 := ((h3.far (e0 0) (.int .u8 0)).far (e0 1) (.int .i64 0)).far (e0 2) (.slice none 0 0)
  have d1 := k1.cell 3
  have d2 := k1.cell 4
  simp at d1 d2
  have hy := ((h2.set_ 0 (.int .u8 0)).set_ 1 (.int .i64 0)).set_ 2 (.slice none 0 0)
  simp at hy
  have HY := Lib.hid hy.drew.three.1
  clear hy
  have hb := ((h4.setCell (p := ⟨w.heap.size, 0, none⟩) (Nat.le_refl _) (.int .u8 0)).setCell (p := ⟨w.heap.size, 1, none⟩) (Nat.le_refl _) (.int .i64 0)).setCell (p := ⟨w.heap.size, 2, none⟩) (Nat.le_refl _) (.slice none 0 0)
  have HX := Lib.hid hb.drew
  clear hz h2 h3 h4 hR hg HC k1 hb e0
  go_wp2_with fail
  rename_i K hKK
  have HK : Hid (∀ (q0 q1 q2 q3 q8 q9 q10 q11 q12 q13 q14 q15 q16 q17 q18 q19 q20 q21 q22 q23 q24 q25 q26 q27 q28 q29 q30 q31 q32 q33 q34 q35 q36 q37 q38 q39 q40 q41 q42 q43 q44 q45 q46 : Value) (W : World),
      W.cell? ⟨w.heap.size, 0, none⟩ = some (.int .u8 0) → W.cell? ⟨w.heap.size, 1, none⟩ = some (.int .i64 0) → W.cell? ⟨w.heap.size, 2, none⟩ = some (.slice none 0 0) → Below w.heap.size w W → K { tmps := #[q0, q1, q2, q3, .pointer (some ⟨w.heap.size, 0, none⟩), .int .i64 0, .int .i64 p1, .int .i64 e1, q8, q9, q10, q11, q12, q13, q14, q15, q16, q17, q18, q19, q20, q21, q22, q23, q24, q25, q26, q27, q28, q29, q30, q31, q32, q33, q34, q35, q36, q37, q38, q39, q40, q41, q42, q43, q44, q45, q46], defers := [] } W) := by
    intro q0 q1 q2 q3 q8 q9 q10 q11 q12 q13 q14 q15 q16 q17 q18 q19 q20 q21 q22 q23 q24 q25 q26 q27 q28 q29 q30 q31 q32 q33 q34 q35 q36 q37 q38 q39 q40 q41 q42 q43 q44 q45 q46 W x0 x1 x2 hb
    refine hKK _ _ ?_
    clear hKK HX y0 y1 y2 g0 g1 g2 z0 z1 z2 f0 f1 f2 c1 d1 c2 d2
    go_wp2_with fail
    refine bodyPost_ret (v := .tuple #[.agg #[.int .u8 0, .int .i64 0, .slice none 0 0], .int .i64 0, .int .i64 p1, .int .i64 e1]) ?_ rfl ⟨rfl, hb⟩
    simp [results, Tryz.results18, go_sem, x0, x1, x2]
  clear hKK
  go_region
  all_goals (
    refine HK.out _ _ _ _ _ _ _ _ _ _ _ _ _ _ _ _ _ _ _ _ _ _ _ _ _ _ _ _ _ _ _ _ _ _ _ _ _ _ _ _ _ _ _ _ ?_ ?_ ?_ ?_ 
    · exact HY.out.1
    · exact HY.out.2.1
    · exact HY.out.2.2
    · exact HX.out)

/-- Where so much fuel is given, what is refused is told why. -/
theorem read_why : ∀ f, (∀ l a m deep item p e, a ≤ l.length → 2 * (l.length - a) + 1 ≤ f → pval f l a m deep item = .bad p e → e ≠ 0) ∧
    (∀ l a m k deep acc p e, a ≤ l.length → 2 * (l.length - a) + 2 ≤ f → pitems f l a m k deep acc = .bad p e → e ≠ 0) := by
  intro f
  induction f with
  | zero => exact ⟨fun _ _ _ _ _ _ _ _ h _ => by omega, fun _ _ _ _ _ _ _ _ _ h _ => by omega⟩
  | succ f ih =>
    refine ⟨fun l a m deep item p e ha hf h => ?_, fun l a m k deep acc p e ha hf h => ?_⟩
    · rw [pval] at h
      by_cases h0 : (nx l a).2.2 ≠ 0
      · rw [if_pos h0] at h; cases h; exact h0
      rw [if_neg h0] at h
      by_cases h1 : valE (nx l a).1 m deep item ≠ 0
      · rw [if_pos h1] at h; cases h; exact h1
      rw [if_neg h1] at h
      have he := nx_end ha (by omega) (valE_stop (m := m) (deep := deep) (item := item) (by omega))
      by_cases h2 : (beginV (nx l a).1).1.k = 3 ∨ (beginV (nx l a).1).1.k = 4
      · rw [if_pos h2] at h
        cases hz : pitems f l (nx l a).1.2.2.1 (m + 1) (beginV (nx l a).1).1.k deep [] with
        | ok vs a' m' => rw [hz] at h; cases h
        | bad p1 e1 => rw [hz] at h; cases h; exact ih.2 _ _ _ _ _ _ _ _ he.2 (by omega) hz
      · rw [if_neg h2] at h; cases h
    · rw [pitems] at h
      by_cases h0 : (nx l a).2.2 ≠ 0
      · rw [if_pos h0] at h; cases h; exact h0
      rw [if_neg h0] at h
      by_cases h1 : shutsK (nx l a).1.1
      · rw [if_pos h1] at h
        by_cases h2 : (nx l a).1.1 ≠ overK k
        · rw [if_pos h2] at h; cases h; decide
        · rw [if_neg h2] at h; cases h
      · rw [if_neg h1] at h
        cases hz : pval f l a m (deep + 1) (acc.length + 1) with
        | ok v a' m' =>
          rw [hz] at h
          have e1 := (read_ends f).1 _ _ _ _ _ _ _ _ ha hz
          exact ih.2 _ _ _ _ _ _ _ _ e1.2 (by omega) h
        | bad p1 e1 => rw [hz] at h; cases h; exact ih.1 _ _ _ _ _ _ _ ha (by omega) hz
theorem partV_why {l : List UInt8} {i : Int} {p e : Nat} (h : partV l i = .bad p e) : e ≠ 0 := by
  unfold partV at h
  by_cases h1 : i < 0 ∨ (l.length : Int) < i
  · rw [if_pos h1] at h; cases h; decide
  · rw [if_neg h1] at h
    exact (read_why _).1 _ _ _ _ _ _ _ (by omega) (by unfold fuelV; omega) h
theorem part_any (s : ByteArray) (i : Int) (w : World) (hs : s.size ≤ 1048576) (hv : Env w) : Calls Tryz.prog 18 #[.string s, .int .i64 i] w (PPost (partV s.data.toList i) w) := by
  have hlen : s.data.toList.length = s.size := by simp
  by_cases h : i < 0 ∨ (s.size : Int) < i
  · have e : partV s.data.toList i = .bad 0 1 := by unfold partV; rw [hlen, if_pos h]
    rw [e]
    exact part_out s i w hs h
  · obtain ⟨a, rfl⟩ : ∃ a : Nat, i = a := ⟨i.toNat, by omega⟩
    have ha : a ≤ s.size := by omega
    rw [partV_in (by rw [hlen]; exact ha)]
    have hb : Below w.heap.size w ((w.alloc zV).alloc (.cells #[.string s, .int .i64 a, .int .i64 0, .int .i64 0, .int .i64 0] 80)) := ((Below.refl w.heap.size w).alloc (Nat.le_refl _) _).alloc (by simp) _
    have hk : RdB ((w.alloc zV).alloc (.cells #[.string s, .int .i64 a, .int .i64 0, .int .i64 0, .int .i64 0] 80)) (w.heap.size + 1) s a 0 0 0 := by
      have h := Blk.new (w.alloc zV) 80 #[.string s, .int .i64 a, .int .i64 0, .int .i64 0, .int .i64 0]
      rwa [World.size_alloc] at h
    have hV := value_all (fuelV s.data.toList) s a 0 1 1 0 0 (w.heap.size + 1) w _ hs ha (by omega) (by omega) (by omega) (by omega) (by unfold fuelV; rw [hlen]; omega) hv hb (by omega) hk
    cases hz : pval (fuelV s.data.toList) s.data.toList a 0 1 1 with
    | ok v a' m' => exact part_ok s a w hs ha v a' m' (fun W hW => by subst hW; exact hV.1 v a' m' hz)
    | bad p e => exact part_bad s a w hs ha p e (fun W hW => by subst hW; exact hV.2 p e hz)
end Go.Proofs.YtbhekkkijomglaaGreatDoor
