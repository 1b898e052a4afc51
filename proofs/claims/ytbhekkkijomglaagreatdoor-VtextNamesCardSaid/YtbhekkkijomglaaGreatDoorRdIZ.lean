/- Put together: RdI, RdJ. -/
import Derived.Test.YtbhekkkijomglaaGreatDoorRdH
import Derived.RegionTactic
namespace Go.Proofs.YtbhekkkijomglaaGreatDoor
/-! The reader's value: whatever fuel. -/
section
open Go.RowKit

theorem valE_lit {kk b d : Nat} {n : Int} {l : List UInt8} {bk : Nat} {bn : Int} {be : Nat} (hb : beginV (kk, b, d, n, l) = (.mk bk bn [], be)) (m deep item : Nat) :
    valE (kk, b, d, n, l) m deep item = if be ≠ 0 then be else if 64 < item then 5 else if 128 < deep then 9 else if 4096 < m + 1 then 5 else (V.mk bk bn []).check := by
  unfold valE; rw [hb]

theorem value_all : ∀ f, PV f := by
  intro f
  induction f using Nat.strongRecOn with
  | _ f ih =>
    intro s a m deep item p e rb w0 w hs ha hm hd1 hd hi hf hv hb0 hrb hB
    cases f with
    | zero => omega
    | succ f =>
      obtain ⟨⟨⟨kk, b, d, n, l⟩, pl, er⟩, hx⟩ : ∃ x, nx s.data.toList a = x := ⟨_, rfl⟩
      have hvw : Env w := hv.step hb0
      by_cases her : er = 0
      · subst her
        obtain ⟨bk, bn, hb1⟩ := begin_nil (kk, b, d, n, l)
        obtain ⟨be, hb⟩ : ∃ be, beginV (kk, b, d, n, l) = (.mk bk bn [], be) := ⟨(beginV (kk, b, d, n, l)).2, by rw [← hb1]⟩
        have hE := valE_lit hb m deep item
        by_cases hbe : be = 0
        · by_cases hi2 : 64 < item
          · rw [if_neg (by omega), if_pos hi2] at hE
            have hp := pval_e2 (f := f) (l := s.data.toList) (a := a) (m := m) (deep := deep) (item := item) hx rfl (by rw [hE]; decide)
            rw [hE] at hp
            refine ⟨fun v a' m' h => (by rw [hp] at h; cases h), fun p' e' h => ?_⟩
            rw [hp] at h
            cases h
            exact value_item s a m deep item p e rb w hs ha hm hvw hB kk b d n l pl hx bk bn be hb hbe hi2
          by_cases hd2 : 128 < deep
          · rw [if_neg (by omega), if_neg hi2, if_pos hd2] at hE
            have hp := pval_e2 (f := f) (l := s.data.toList) (a := a) (m := m) (deep := deep) (item := item) hx rfl (by rw [hE]; decide)
            rw [hE] at hp
            refine ⟨fun v a' m' h => (by rw [hp] at h; cases h), fun p' e' h => ?_⟩
            rw [hp] at h
            cases h
            exact value_deep s a m deep item p e rb w hs ha hm hvw hB kk b d n l pl hx bk bn be hb hbe hi2 hd2
          by_cases hm2 : 4096 < m + 1
          · rw [if_neg (by omega), if_neg hi2, if_neg hd2, if_pos hm2] at hE
            have hp := pval_e2 (f := f) (l := s.data.toList) (a := a) (m := m) (deep := deep) (item := item) hx rfl (by rw [hE]; decide)
            rw [hE] at hp
            refine ⟨fun v a' m' h => (by rw [hp] at h; cases h), fun p' e' h => ?_⟩
            rw [hp] at h
            cases h
            exact value_many s a m deep item p e rb w hs ha hm hvw hB kk b d n l pl hx bk bn be hb hbe hi2 hd2 hm2
          rw [if_neg (by omega), if_neg hi2, if_neg hd2, if_neg hm2] at hE
          by_cases hce : (V.mk bk bn []).check = 0
          · have hE0 : valE (kk, b, d, n, l) m deep item = 0 := by rw [hE, hce]
            have hends := nx_end (l := s.data.toList) (a := a) ha (by rw [hx]) (by rw [hx]; exact valE_stop hE0)
            rw [hx] at hends
            obtain ⟨ed1, ed2⟩ := hends
            change a < d at ed1
            have ed3 : d ≤ s.size := by simpa using ed2
            by_cases hbk : bk = 3 ∨ bk = 4
            · have hbn : bn = 0 := by
                have h := begin_tuple (x := (kk, b, d, n, l)) (by rw [hb]; exact hbk)
                rw [hb] at h
                injection h with _ h _
              subst hbn
              have hp := pval_e3 (f := f) (l := s.data.toList) (a := a) (m := m) (deep := deep) (item := item) hx rfl hE0 (by rw [hb]; exact hbk)
              rw [hb] at hp
              change pval (f + 1) s.data.toList a m deep item = bindP (pitems f s.data.toList d (m + 1) bk deep []) (fun vs a' m' => .ok (.mk bk 0 vs) a' m') at hp
              have hI := fun W (h1 : RdB W rb s d ((m : Int) + 1) p e) (h2 : w.grownBy W (some rb)) =>
                items_any f (fun f' hf' => ih f' (by omega)) s d (m + 1) bk deep p e rb w0 W hs ed3 (by omega) hbk hd1 (by omega) (by omega) hv (below_of_only hb0 h2 hb0.size hrb) hrb h1
              cases hz : pitems f s.data.toList d (m + 1) bk deep [] with
              | ok vs a' m' =>
                rw [hz] at hp hI
                refine ⟨fun v a2 m2 h => ?_, fun p' e' h => (by rw [hp] at h; cases h)⟩
                rw [hp] at h
                cases h
                rcases hbk with h3 | h4
                · exact value_row3 s a m deep item p e rb w hs ha hm hvw hB kk b d n l pl hx bk 0 be hb hbe hi2 hd2 hm2 hce h3 vs a' m' hI
                · exact value_row4 s a m deep item p e rb w hs ha hm hvw hB kk b d n l pl hx bk 0 be hb hbe hi2 hd2 hm2 hce h4 vs a' m' hI
              | bad p1 e1 =>
                rw [hz] at hp hI
                refine ⟨fun v a2 m2 h => (by rw [hp] at h; cases h), fun p' e' h => ?_⟩
                rw [hp] at h
                cases h
                rcases hbk with h3 | h4
                · exact value_bad3 s a m deep item p e rb w hs ha hm hvw hB kk b d n l pl hx bk 0 be hb hbe hi2 hd2 hm2 hce h3 p1 e1 hI
                · exact value_bad4 s a m deep item p e rb w hs ha hm hvw hB kk b d n l pl hx bk 0 be hb hbe hi2 hd2 hm2 hce h4 p1 e1 hI
            · have hp := pval_e4 (f := f) (l := s.data.toList) (a := a) (m := m) (deep := deep) (item := item) hx rfl hE0 (by rw [hb]; exact hbk)
              rw [hb] at hp
              refine ⟨fun v a' m' h => ?_, fun p' e' h => (by rw [hp] at h; cases h)⟩
              rw [hp] at h
              cases h
              exact value_leaf s a m deep item p e rb w hs ha hm hvw hB kk b d n l pl hx bk bn be hb hbe hi2 hd2 hm2 hce ⟨fun h => hbk (.inl h), fun h => hbk (.inr h)⟩
          · have hp := pval_e2 (f := f) (l := s.data.toList) (a := a) (m := m) (deep := deep) (item := item) hx rfl (by rw [hE]; exact hce)
            rw [hE] at hp
            refine ⟨fun v a' m' h => (by rw [hp] at h; cases h), fun p' e' h => ?_⟩
            rw [hp] at h
            cases h
            exact value_check s a m deep item p e rb w hs ha hm hvw hB kk b d n l pl hx bk bn be hb hbe hi2 hd2 hm2 hce
        · rw [if_pos hbe] at hE
          have hp := pval_e2 (f := f) (l := s.data.toList) (a := a) (m := m) (deep := deep) (item := item) hx rfl (by rw [hE]; exact hbe)
          rw [hE] at hp
          refine ⟨fun v a' m' h => (by rw [hp] at h; cases h), fun p' e' h => ?_⟩
          rw [hp] at h
          cases h
          exact value_begin s a m deep item p e rb w hs ha hm hvw hB kk b d n l pl hx bk bn be hb hbe
      · have hp := pval_e1 (f := f) (l := s.data.toList) (a := a) (m := m) (deep := deep) (item := item) hx her
        refine ⟨fun v a' m' h => (by rw [hp] at h; cases h), fun p' e' h => ?_⟩
        rw [hp] at h
        cases h
        exact value_next s a m deep item p e rb w hs ha hvw hB kk b d n l pl er her hx
end

/-! The walk of Part. -/
section
open Go.RowKit

/-- What Part tells. -/
def PPost (x : PR V) (w : World) (en : Ending) (w' : World) : Prop :=
  match x with
  | .ok v a _ => ∃ A c, en = .returned (.tuple #[vAgg v A c, .int .i64 a, .int .i64 0, .int .i64 0]) ∧ Below w.heap.size w w' ∧ Vsp w' (Fr w.heap.size w') A v.l
  | .bad p e => en = .returned (.tuple #[.agg #[.int .u8 0, .int .i64 0, .slice none 0 0], .int .i64 0, .int .i64 p, .int .i64 e]) ∧ Below w.heap.size w w'

abbrev zV : Obj := .cells #[.int .u8 0, .int .i64 0, .slice none 0 0] 24
/-- The result's block and the reader's, behind the value's call. -/
theorem part_held {w w3 : World} {s : ByteArray} {at_ : Nat} {a m p e : Int} (hg : ((w.alloc zV).alloc (.cells #[.string s, .int .i64 at_, .int .i64 0, .int .i64 0, .int .i64 0] 80)).grownBy w3 (some (w.heap.size + 1)))
    (hB : RdB w3 (w.heap.size + 1) s a m p e) (u v x : Value) :
    Blk w3 w.heap.size 24 #[.int .u8 0, .int .i64 0, .slice none 0 0] ∧ Blk (((w3.setCell ⟨w.heap.size, 0, none⟩ u).setCell ⟨w.heap.size, 1, none⟩ v).setCell ⟨w.heap.size, 2, none⟩ x) w.heap.size 24 #[u, v, x] ∧ RdB (((w3.setCell ⟨w.heap.size, 0, none⟩ u).setCell ⟨w.heap.size, 1, none⟩ v).setCell ⟨w.heap.size, 2, none⟩ x) (w.heap.size + 1) s a m p e ∧ Below w.heap.size w (((w3.setCell ⟨w.heap.size, 0, none⟩ u).setCell ⟨w.heap.size, 1, none⟩ v).setCell ⟨w.heap.size, 2, none⟩ x) := by
  have h1 := (((Blk.new w 24 #[.int .u8 0, .int .i64 0, .slice none 0 0]).alloc (.cells #[.string s, .int .i64 at_, .int .i64 0, .int .i64 0, .int .i64 0] 80))).grown hg (fun q => by injection q with q; omega)
  have e0 : ∀ i, w.heap.size + 1 ≠ (⟨w.heap.size, i, none⟩ : Addr).block := fun i => by show w.heap.size + 1 ≠ w.heap.size; omega
  have hb := below_of_only (((Below.refl w.heap.size w).alloc (Nat.le_refl _) zV).alloc (by simp) (.cells #[.string s, .int .i64 at_, .int .i64 0, .int .i64 0, .int .i64 0] 80)) hg (by simp; omega) (Nat.le_succ _)
  refine ⟨h1, ?_, ((hB.far (e0 0) _).far (e0 1) _).far (e0 2) _, ((hb.setCell (p := ⟨w.heap.size, 0, none⟩) (Nat.le_refl _) u).setCell (p := ⟨w.heap.size, 1, none⟩) (Nat.le_refl _) v).setCell (p := ⟨w.heap.size, 2, none⟩) (Nat.le_refl _) x⟩
  have h2 := ((h1.set_ 0 u).set_ 1 v).set_ 2 x
  simpa using h2

theorem vsp_drew {W : World} {B : Nat} {A : Option Addr} {l : List V} (h : Vsp W (Fr B W) A l) : Vsp W.drew (Fr B W.drew) A l := Vsp.keep (w := W) (w' := W.drew) (S := Fr B W) (S' := Fr B W.drew) (fun _ h => h) (fun _ _ => rfl) h

set_option maxRecDepth 100000 in
set_option maxHeartbeats 4000000 in
theorem part_out (s : ByteArray) (i : Int) (w : World) (hs : s.size ≤ 1048576) (h : i < 0 ∨ (s.size : Int) < i) :
    Calls Tryz.prog 18 #[.string s, .int .i64 i] w (PPost (.bad 0 1) w) := by
  have HB := Lib.hid ((Below.refl w.heap.size w).alloc (Nat.le_refl _) zV)
  have z := (Blk.new w 24 #[.int .u8 0, .int .i64 0, .slice none 0 0])
  obtain ⟨⟨z0, z1, z2⟩, f0, f1, f2⟩ := z.three
  clear z
  by_cases h0 : i < 0
  · clear h
    go_enter Tryz.func18, Tryz.ntmps18
    go_wp2_with fail
    refine bodyPost_ret (v := .tuple #[.agg #[.int .u8 0, .int .i64 0, .slice none 0 0], .int .i64 0, .int .i64 0, .int .i64 1]) (by simp [results, Tryz.results18, go_sem]) rfl ⟨rfl, ?_⟩
    exact HB.out
  · have h1 : (s.size : Int) < i := by omega
    clear h
    go_enter Tryz.func18, Tryz.ntmps18
    go_wp2_with fail
    refine bodyPost_ret (v := .tuple #[.agg #[.int .u8 0, .int .i64 0, .slice none 0 0], .int .i64 0, .int .i64 0, .int .i64 1]) (by simp [results, Tryz.results18, go_sem]) rfl ⟨rfl, ?_⟩
    exact HB.out

set_option maxRecDepth 100000 in
set_option maxHeartbeats 8000000 in
theorem part_ok (s : ByteArray) (at_ : Nat) (w : World) (hs : s.size ≤ 1048576) (ha : at_ ≤ s.size) (v : V) (a m : Nat)
    (hC : ∀ W, W = (w.alloc zV).alloc (.cells #[.string s, .int .i64 at_, .int .i64 0, .int .i64 0, .int .i64 0] 80) → Calls Tryz.prog 39 #[.agg #[.pointer (some ⟨w.heap.size + 1, 0, none⟩), .int .i64 1], .int .i64 1] W (VOk s (w.heap.size + 1) 0 0 v a m W)) :
    Calls Tryz.prog 18 #[.string s, .int .i64 at_] w (PPost (.ok v a m) w) := by
  have h0 : ¬ (at_ : Int) < 0 := by omega
  have h1 : ¬ (s.size : Int) < (at_ : Int) := by omega
  have HC := Lib.hid (hC _ rfl)
  clear hC hs ha
  go_enter Tryz.func18, Tryz.ntmps18
  go_wp2_with fail
  refine HC.out.mono ?_
  rintro e' w3 ⟨A, c, he, hR, hg, hV⟩
  change e' = .returned (.tuple #[.agg #[.int .u8 v.k, .int .i64 v.n, .slice A v.l.length c], .bool true]) at he
  subst he
  obtain ⟨hz, h2, h3, h4⟩ := part_held hg hR (.int .u8 v.k) (.int .i64 v.n) (.slice A v.l.length c)
  obtain ⟨⟨z0, z1, z2⟩, f0, f1, f2⟩ := hz.three
  obtain ⟨⟨y0, y1, y2⟩, g0, g1, g2⟩ := h2.three
  have c1 := h3.cell 1
  simp at c1
  have e0 : ∀ i, w.heap.size + 1 ≠ (⟨w.heap.size, i, none⟩ : Addr).block := fun i => by show w.heap.size + 1 ≠ w.heap.size; omega
  have k1 := ((h3.far (e0 0) (.int .u8 v.k)).far (e0 1) (.int .i64 v.n)).far (e0 2) (.slice A v.l.length c)
  have d1 := k1.cell 1
  simp at d1
  have hy := ((h2.set_ 0 (.int .u8 v.k)).set_ 1 (.int .i64 v.n)).set_ 2 (.slice A v.l.length c)
  simp at hy
  have HY := Lib.hid hy.drew.three.1
  clear hy
  have hb := ((h4.setCell (p := ⟨w.heap.size, 0, none⟩) (Nat.le_refl _) (.int .u8 v.k)).setCell (p := ⟨w.heap.size, 1, none⟩) (Nat.le_refl _) (.int .i64 v.n)).setCell (p := ⟨w.heap.size, 2, none⟩) (Nat.le_refl _) (.slice A v.l.length c)
  have hv := fresh_three (R := w.heap.size) (B' := w.heap.size) (fresh_three (R := w.heap.size) (B' := w.heap.size + 1) hV (by simp; omega) (by simp) (.int .u8 v.k) (.int .i64 v.n) (.slice A v.l.length c)) (by omega) (by omega) (.int .u8 v.k) (.int .i64 v.n) (.slice A v.l.length c)
  have HX := Lib.hid (And.intro hb.drew (vsp_drew hv))
  clear hz h2 h3 h4 hR hg hV HC k1 hb hv e0
  go_wp2_with fail
  rename_i K hKK
  have HK : Hid (∀ (q0 q1 q2 q3 q8 q9 q10 q11 q12 q13 q14 q15 q16 q17 q18 q19 q20 q21 q22 q23 q24 q25 q26 q27 q28 q29 q30 q31 q32 q33 q34 q35 q36 q37 q38 q39 q40 q41 q42 q43 q44 q45 q46 : Value) (W : World),
      W.cell? ⟨w.heap.size, 0, none⟩ = some (.int .u8 v.k) → W.cell? ⟨w.heap.size, 1, none⟩ = some (.int .i64 v.n) → W.cell? ⟨w.heap.size, 2, none⟩ = some (.slice A v.l.length c) → Below w.heap.size w W → Vsp W (Fr w.heap.size W) A v.l → K { tmps := #[q0, q1, q2, q3, .pointer (some ⟨w.heap.size, 0, none⟩), .int .i64 a, .int .i64 0, .int .i64 0, q8, q9, q10, q11, q12, q13, q14, q15, q16, q17, q18, q19, q20, q21, q22, q23, q24, q25, q26, q27, q28, q29, q30, q31, q32, q33, q34, q35, q36, q37, q38, q39, q40, q41, q42, q43, q44, q45, q46], defers := [] } W) := by
    intro q0 q1 q2 q3 q8 q9 q10 q11 q12 q13 q14 q15 q16 q17 q18 q19 q20 q21 q22 q23 q24 q25 q26 q27 q28 q29 q30 q31 q32 q33 q34 q35 q36 q37 q38 q39 q40 q41 q42 q43 q44 q45 q46 W x0 x1 x2 hb hv
    refine hKK _ _ ?_
    clear hKK HX y0 y1 y2 g0 g1 g2 z0 z1 z2 f0 f1 f2 c1 d1
    go_wp2_with fail
    refine bodyPost_ret (v := .tuple #[.agg #[.int .u8 v.k, .int .i64 v.n, .slice A v.l.length c], .int .i64 a, .int .i64 0, .int .i64 0]) ?_ rfl ⟨A, c, rfl, hb, hv⟩
    simp [results, Tryz.results18, go_sem, x0, x1, x2]
  clear hKK
  go_region
  all_goals (
    refine HK.out _ _ _ _ _ _ _ _ _ _ _ _ _ _ _ _ _ _ _ _ _ _ _ _ _ _ _ _ _ _ _ _ _ _ _ _ _ _ _ _ _ _ _ _ ?_ ?_ ?_ ?_ ?_
    · exact HY.out.1
    · exact HY.out.2.1
    · exact HY.out.2.2
    · exact HX.out.1
    · exact HX.out.2)
end
end Go.Proofs.YtbhekkkijomglaaGreatDoor
