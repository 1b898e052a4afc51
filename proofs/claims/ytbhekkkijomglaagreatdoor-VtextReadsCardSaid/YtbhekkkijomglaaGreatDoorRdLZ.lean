/- Put together: RdL, RdM. -/
import Derived.Test.YtbhekkkijomglaaGreatDoorRdIZ
namespace Go.Proofs.YtbhekkkijomglaaGreatDoor
/-! The walk of Read. -/
section
open Go.RowKit

/-- What Read tells. -/
def RPost (x : PR V) (w : World) (en : Ending) (w' : World) : Prop :=
  match x with
  | .ok v _ _ => ∃ A c, en = .returned (.tuple #[vAgg v A c, .int .i64 0, .int .i64 0]) ∧ Below w.heap.size w w' ∧ Vsp w' (Fr w.heap.size w') A v.l
  | .bad p e => en = .returned (.tuple #[.agg #[.int .u8 0, .int .i64 0, .slice none 0 0], .int .i64 p, .int .i64 e]) ∧ Below w.heap.size w w'

/-- The result's block, behind what is below. -/
theorem res_held {w w2 : World} (hb : Below (w.alloc zV).heap.size (w.alloc zV) w2) : Blk w2 w.heap.size 24 #[.int .u8 0, .int .i64 0, .slice none 0 0] ∧ Below w.heap.size w w2 :=
  ⟨(Blk.new w 24 #[.int .u8 0, .int .i64 0, .slice none 0 0]).below hb (by simp), ((Below.refl w.heap.size w).alloc (Nat.le_refl _) zV).trans (hb.mono (by simp))⟩
theorem res_set {w w2 : World} {a b c : Value} (h : Blk w2 w.heap.size 24 #[a, b, c] ∧ Below w.heap.size w w2) (u v x : Value) :
    Blk (((w2.setCell ⟨w.heap.size, 0, none⟩ u).setCell ⟨w.heap.size, 1, none⟩ v).setCell ⟨w.heap.size, 2, none⟩ x) w.heap.size 24 #[u, v, x] ∧ Below w.heap.size w (((w2.setCell ⟨w.heap.size, 0, none⟩ u).setCell ⟨w.heap.size, 1, none⟩ v).setCell ⟨w.heap.size, 2, none⟩ x) := by
  refine ⟨?_, ((h.2.setCell (p := ⟨w.heap.size, 0, none⟩) (Nat.le_refl _) u).setCell (p := ⟨w.heap.size, 1, none⟩) (Nat.le_refl _) v).setCell (p := ⟨w.heap.size, 2, none⟩) (Nat.le_refl _) x⟩
  have h2 := ((h.1.set_ 0 u).set_ 1 v).set_ 2 x
  simpa using h2
theorem res_below {w w2 w3 : World} {a b c : Value} (h : Blk w2 w.heap.size 24 #[a, b, c] ∧ Below w.heap.size w w2) (hb : Below w2.heap.size w2 w3) : Blk w3 w.heap.size 24 #[a, b, c] ∧ Below w.heap.size w w3 :=
  ⟨h.1.below hb h.1.lt, h.2.trans (hb.mono h.2.size)⟩

set_option maxRecDepth 100000 in
set_option maxHeartbeats 4000000 in
theorem read_long (s : ByteArray) (w : World) (h : 65536 < s.size) : Calls Tryz.prog 17 #[.string s] w (RPost (.bad 0 5) w) := by
  have HB := Lib.hid ((Below.refl w.heap.size w).alloc (Nat.le_refl _) zV)
  have h1 : (65536 : Int) < (s.size : Int) := by omega
  clear h
  go_enter Tryz.func17, Tryz.ntmps17
  go_wp2_with fail
  refine bodyPost_ret (v := .tuple #[.agg #[.int .u8 0, .int .i64 0, .slice none 0 0], .int .i64 0, .int .i64 5]) (by simp [results, Tryz.results17, go_sem]) rfl ⟨rfl, ?_⟩
  exact HB.out

set_option maxRecDepth 100000 in
set_option maxHeartbeats 4000000 in
theorem read_part (s : ByteArray) (w : World) (hs : s.size ≤ 65536) (p e : Nat) (he : e ≠ 0)
    (hC : Calls Tryz.prog 18 #[.string s, .int .i64 0] (w.alloc zV) (PPost (.bad p e) (w.alloc zV))) :
    Calls Tryz.prog 17 #[.string s] w (RPost (.bad p e) w) := by
  have HC := Lib.hid hC
  have h1 : ¬ (65536 : Int) < (s.size : Int) := by omega
  have e1 : ((e : Int) != 0) = true := bne_iff_ne.2 (by omega)
  have e2 : ((e : Int) == 0) = false := beq_eq_false_iff_ne.2 (by omega)
  clear hC hs he
  go_enter Tryz.func17, Tryz.ntmps17
  go_wp2_with fail
  refine HC.out.mono ?_
  rintro e' w2 ⟨rfl, hb⟩
  have r1 := res_held hb
  have r2 := res_set r1 (.int .u8 0) (.int .i64 0) (.slice none 0 0)
  have r3 := res_set r2 (.int .u8 0) (.int .i64 0) (.slice none 0 0)
  obtain ⟨⟨z0, z1, z2⟩, f0, f1, f2⟩ := r1.1.three
  obtain ⟨⟨y0, y1, y2⟩, g0, g1, g2⟩ := r2.1.three
  have HX := Lib.hid r3.2
  clear r1 r2 r3 hb HC
  go_wp2_with fail
  refine bodyPost_ret (v := .tuple #[.agg #[.int .u8 0, .int .i64 0, .slice none 0 0], .int .i64 p, .int .i64 e]) (by simp [results, Tryz.results17, go_sem, y0, y1, y2]) rfl ⟨rfl, ?_⟩
  exact HX.out

set_option maxRecDepth 100000 in
set_option maxHeartbeats 4000000 in
theorem read_next (s : ByteArray) (w : World) (hs : s.size ≤ 65536) (v : V) (a m : Nat) (ha : a ≤ s.size) (hv : Env w) (kk b d : Nat) (n : Int) (l : List UInt8) (pl er : Nat) (her : er ≠ 0) (hx : nx s.data.toList a = ((kk, b, d, n, l), pl, er))
    (hC : Calls Tryz.prog 18 #[.string s, .int .i64 0] (w.alloc zV) (PPost (.ok v a m) (w.alloc zV))) :
    Calls Tryz.prog 17 #[.string s] w (RPost (.bad pl er) w) := by
  have HC := Lib.hid hC
  have HN := Lib.hid (fun W hW => nx_call s a W (by omega) ha hW kk b d n l pl er hx)
  have h1 : ¬ (65536 : Int) < (s.size : Int) := by omega
  have e1 : ((er : Int) != 0) = true := bne_iff_ne.2 (by omega)
  have e2 : ((er : Int) == 0) = false := beq_eq_false_iff_ne.2 (by omega)
  clear hC hs her hx
  go_enter Tryz.func17, Tryz.ntmps17
  go_wp2_with fail
  refine HC.out.mono ?_
  rintro e' w2 ⟨A, c, he, hb, hV⟩
  change e' = .returned (.tuple #[.agg #[.int .u8 v.k, .int .i64 v.n, .slice A v.l.length c], .int .i64 a, .int .i64 0, .int .i64 0]) at he
  subst he
  have r1 := res_held hb
  have r2 := res_set r1 (.int .u8 v.k) (.int .i64 v.n) (.slice A v.l.length c)
  obtain ⟨⟨z0, z1, z2⟩, f0, f1, f2⟩ := r1.1.three
  have HR := Lib.hid r2
  clear r1 r2 hb hV HC
  go_wp2_with fail
  refine (HN.out _ (hv.step HR.out.2)).mono ?_
  rintro e' w3 ⟨rfl, hb3⟩
  have r3 := res_below (res_below HR.out hb3) ((Below.refl _ _).alloc (Nat.le_refl _) (.cells #[.int .u8 kk, .int .i64 b, .int .i64 d, .int .i64 n, .string (bs l)] 54))
  have r4 := res_set r3 (.int .u8 0) (.int .i64 0) (.slice none 0 0)
  clear z0 z1 z2 f0 f1 f2
  obtain ⟨⟨y0, y1, y2⟩, g0, g1, g2⟩ := r3.1.three
  have HX := Lib.hid r4.2
  clear r3 r4 hb3 HN HR
  go_wp2_with fail
  refine bodyPost_ret (v := .tuple #[.agg #[.int .u8 0, .int .i64 0, .slice none 0 0], .int .i64 pl, .int .i64 er]) (by simp [results, Tryz.results17, go_sem, y0, y1, y2]) rfl ⟨rfl, ?_⟩
  exact HX.out

set_option maxRecDepth 100000 in
set_option maxHeartbeats 4000000 in
theorem read_okk (s : ByteArray) (w : World) (hs : s.size ≤ 65536) (v : V) (a m : Nat) (ha : a ≤ s.size) (hv : Env w) (b d : Nat) (n : Int) (l : List UInt8) (pl : Nat) (hx : nx s.data.toList a = ((10, b, d, n, l), pl, 0))
    (hC : Calls Tryz.prog 18 #[.string s, .int .i64 0] (w.alloc zV) (PPost (.ok v a m) (w.alloc zV))) :
    Calls Tryz.prog 17 #[.string s] w (RPost (.ok v 0 m) w) := by
  have HC := Lib.hid hC
  have HN := Lib.hid (fun W hW => nx_call s a W (by omega) ha hW 10 b d n l pl 0 hx)
  have h1 : ¬ (65536 : Int) < (s.size : Int) := by omega
  clear hC hs hx
  go_enter Tryz.func17, Tryz.ntmps17
  go_wp2_with fail
  refine HC.out.mono ?_
  rintro e' w2 ⟨A, c, he, hb, hV⟩
  change e' = .returned (.tuple #[.agg #[.int .u8 v.k, .int .i64 v.n, .slice A v.l.length c], .int .i64 a, .int .i64 0, .int .i64 0]) at he
  subst he
  have r1 := res_held hb
  have r2 := res_set r1 (.int .u8 v.k) (.int .i64 v.n) (.slice A v.l.length c)
  obtain ⟨⟨z0, z1, z2⟩, f0, f1, f2⟩ := r1.1.three
  have hV2 := fresh_three (R := w.heap.size) (B' := w.heap.size + 1) (show Vsp w2 (Fr (w.heap.size + 1) w2) A v.l from by rw [World.size_alloc] at hV; exact hV) (by omega) (Nat.le_refl _) (.int .u8 v.k) (.int .i64 v.n) (.slice A v.l.length c)
  have HR := Lib.hid (And.intro r2 hV2)
  clear r1 r2 hb hV hV2 HC
  go_wp2_with fail
  refine (HN.out _ (hv.step HR.out.1.2)).mono ?_
  rintro e' w3 ⟨he, hb3⟩
  change e' = .returned (.tuple #[.agg #[.int .u8 10, .int .i64 b, .int .i64 d, .int .i64 n, .string (bs l)], .int .i64 pl, .int .i64 0]) at he
  subst he
  have hb4 := (Below.refl w3.heap.size w3).alloc (Nat.le_refl _) (.cells #[.int .u8 10, .int .i64 b, .int .i64 d, .int .i64 n, .string (bs l)] 54)
  have r3 := res_below (res_below HR.out.1 hb3) hb4
  have hV3 := (HR.out.2.fresh_keep (only_of_below hb3 none) (Nat.le_refl _) (fun g q => by cases q)).fresh_keep (only_of_below hb4 none) (Nat.le_refl _) (fun g q => by cases q)
  have r4 := res_set r3 (.int .u8 v.k) (.int .i64 v.n) (.slice A v.l.length c)
  have hV4 := fresh_three (R := w.heap.size) (B' := w.heap.size) hV3 (by omega) (by omega) (.int .u8 v.k) (.int .i64 v.n) (.slice A v.l.length c)
  clear z0 z1 z2 f0 f1 f2
  obtain ⟨⟨y0, y1, y2⟩, g0, g1, g2⟩ := r3.1.three
  have HX := Lib.hid (And.intro r4.2 hV4)
  clear r3 r4 hb3 hb4 hV3 hV4 HN HR
  go_wp2_with fail
  refine bodyPost_ret (v := .tuple #[.agg #[.int .u8 v.k, .int .i64 v.n, .slice A v.l.length c], .int .i64 0, .int .i64 0]) (by simp [results, Tryz.results17, go_sem, y0, y1, y2]) rfl ⟨A, c, rfl, ?_, ?_⟩
  · exact HX.out.1
  · exact HX.out.2
end

/-! The walk of Read: more than a value; and whatever text. -/
section
open Go.RowKit

set_option maxRecDepth 100000 in
set_option maxHeartbeats 8000000 in
theorem read_over (s : ByteArray) (w : World) (hs : s.size ≤ 65536) (v : V) (a m : Nat) (ha : a ≤ s.size) (hv : Env w) (kk b d : Nat) (n : Int) (l : List UInt8) (pl : Nat) (hkk : kk ≠ 10) (hx : nx s.data.toList a = ((kk, b, d, n, l), pl, 0))
    (hC : Calls Tryz.prog 18 #[.string s, .int .i64 0] (w.alloc zV) (PPost (.ok v a m) (w.alloc zV))) :
    Calls Tryz.prog 17 #[.string s] w (RPost (.bad b 6) w) := by
  have HC := Lib.hid hC
  have HN := Lib.hid (fun W hW => nx_call s a W (by omega) ha hW kk b d n l pl 0 hx)
  have h1 : ¬ (65536 : Int) < (s.size : Int) := by omega
  have e1 : ((kk : Int) != 10) = true := bne_iff_ne.2 (by omega)
  have e2 : ((kk : Int) == 10) = false := beq_eq_false_iff_ne.2 (by omega)
  clear hC hs hx hkk
  go_enter Tryz.func17, Tryz.ntmps17
  go_wp2_with fail
  refine HC.out.mono ?_
  rintro e' w2 ⟨A, c, he, hb, hV⟩
  change e' = .returned (.tuple #[.agg #[.int .u8 v.k, .int .i64 v.n, .slice A v.l.length c], .int .i64 a, .int .i64 0, .int .i64 0]) at he
  subst he
  have r1 := res_held hb
  have r2 := res_set r1 (.int .u8 v.k) (.int .i64 v.n) (.slice A v.l.length c)
  obtain ⟨⟨z0, z1, z2⟩, f0, f1, f2⟩ := r1.1.three
  have HR := Lib.hid r2
  clear r1 r2 hb hV HC
  go_wp2_with fail
  refine (HN.out _ (hv.step HR.out.2)).mono ?_
  rintro e' w3 ⟨he, hb3⟩
  change e' = .returned (.tuple #[.agg #[.int .u8 kk, .int .i64 b, .int .i64 d, .int .i64 n, .string (bs l)], .int .i64 pl, .int .i64 0]) at he
  subst he
  have r3 := res_below (res_below HR.out hb3) ((Below.refl _ _).alloc (Nat.le_refl _) (.cells #[.int .u8 kk, .int .i64 b, .int .i64 d, .int .i64 n, .string (bs l)] 54))
  have r4 := res_set r3 (.int .u8 0) (.int .i64 0) (.slice none 0 0)
  clear z0 z1 z2 f0 f1 f2
  obtain ⟨⟨y0, y1, y2⟩, g0, g1, g2⟩ := r3.1.three
  have hlt : w.heap.size < w3.heap.size := Nat.lt_of_lt_of_le HR.out.1.lt hb3.size
  have e0 : ∀ i, w3.heap.size ≠ (⟨w.heap.size, i, none⟩ : Addr).block := fun i => by show w3.heap.size ≠ w.heap.size; omega
  have km := Blk.new w3 54 #[.int .u8 kk, .int .i64 b, .int .i64 d, .int .i64 n, .string (bs l)]
  have c1 := km.cell 1
  have k1 := ((km.far (e0 0) (.int .u8 0)).far (e0 1) (.int .i64 0)).far (e0 2) (.slice none 0 0)
  have d1 := k1.cell 1
  simp at c1 d1
  have HX := Lib.hid r4.2.drew
  have HY := Lib.hid r4.1.drew.three.1
  clear r3 r4 hb3 HN HR e0 km k1 hlt
  go_wp2_with fail
  rename_i K hKK
  have HK : Hid (∀ (q0 q1 q5 q6 q7 q8 q9 q10 q11 q12 q13 q14 q15 q16 q17 q18 q19 q20 q21 q22 q23 q24 q25 q26 q27 q28 q29 q30 q31 q32 q33 q34 q35 q36 q37 q38 q39 q40 q41 q42 q43 : Value) (W : World), W.cell? ⟨w.heap.size, 0, none⟩ = some (.int .u8 0) → W.cell? ⟨w.heap.size, 1, none⟩ = some (.int .i64 0) → W.cell? ⟨w.heap.size, 2, none⟩ = some (.slice none 0 0) → Below w.heap.size w W →
      K { tmps := #[q0, q1, .pointer (some ⟨w.heap.size, 0, none⟩), .int .i64 b, .int .i64 6, q5, q6, q7, q8, q9, q10, q11, q12, q13, q14, q15, q16, q17, q18, q19, q20, q21, q22, q23, q24, q25, q26, q27, q28, q29, q30, q31, q32, q33, q34, q35, q36, q37, q38, q39, q40, q41, q42, q43], defers := [] } W) := by
    intro q0 q1 q5 q6 q7 q8 q9 q10 q11 q12 q13 q14 q15 q16 q17 q18 q19 q20 q21 q22 q23 q24 q25 q26 q27 q28 q29 q30 q31 q32 q33 q34 q35 q36 q37 q38 q39 q40 q41 q42 q43 W x0 x1 x2 hb
    refine hKK _ _ ?_
    clear hKK HX HY y0 y1 y2 g0 g1 g2 c1 d1
    go_wp2_with fail
    refine bodyPost_ret (v := .tuple #[.agg #[.int .u8 0, .int .i64 0, .slice none 0 0], .int .i64 b, .int .i64 6]) ?_ rfl ⟨rfl, hb⟩
    simp [results, Tryz.results17, go_sem, x0, x1, x2]
  clear hKK
  go_region
  all_goals (
    refine HK.out _ _ _ _ _ _ _ _ _ _ _ _ _ _ _ _ _ _ _ _ _ _ _ _ _ _ _ _ _ _ _ _ _ _ _ _ _ _ _ _ _ _ ?_ ?_ ?_ ?_
    · exact HY.out.1
    · exact HY.out.2.1
    · exact HY.out.2.2
    · exact HX.out)

theorem read_any (s : ByteArray) (w : World) (hs : s.size ≤ 1048576) (hv : Env w) : Calls Tryz.prog 17 #[.string s] w (RPost (readV s.data.toList) w) := by
  have hlen : s.data.toList.length = s.size := by simp
  unfold readV
  rw [hlen]
  by_cases h : 65536 < s.size
  · rw [if_pos h]
    exact read_long s w h
  · rw [if_neg h]
    have hP := part_any s 0 (w.alloc zV) hs (hv.alloc _)
    cases hz : partV s.data.toList 0 with
    | bad p e =>
      rw [hz] at hP
      exact read_part s w (by omega) p e (partV_why hz) hP
    | ok v a m =>
      rw [hz] at hP
      have hz2 := hz
      have ha : a ≤ s.size := by
        have e := partV_in (l := s.data.toList) (a := 0) (Nat.zero_le _)
        rw [show ((0 : Nat) : Int) = 0 from rfl, hz2] at e
        have := ((read_ends _).1 _ _ _ _ _ _ _ _ (Nat.zero_le _) e.symm).2
        omega
      show Calls _ _ _ _ (RPost (if (nx s.data.toList a).2.2 ≠ 0 then _ else if (nx s.data.toList a).1.1 ≠ 10 then _ else _) w)
      obtain ⟨⟨⟨kk, b, d, n, l⟩, pl, er⟩, hx⟩ : ∃ x, nx s.data.toList a = x := ⟨_, rfl⟩
      rw [hx]
      by_cases her : er = 0
      · subst her
        rw [if_neg (by simp)]
        by_cases hk : kk = 10
        · subst hk
          rw [if_neg (by simp)]
          exact read_okk s w (by omega) v a m ha hv b d n l pl hx hP
        · rw [if_pos hk]
          exact read_over s w (by omega) v a m ha hv kk b d n l pl hk hx hP
      · rw [if_pos her]
        exact read_next s w (by omega) v a m ha hv kk b d n l pl er her hx hP
theorem readV_why {l : List UInt8} {p e : Nat} (h : readV l = .bad p e) : e ≠ 0 := by
  unfold readV at h
  by_cases h5 : 65536 < l.length
  · rw [if_pos h5] at h; cases h; decide
  rw [if_neg h5] at h
  cases hz : partV l 0 with
  | bad p1 e1 => rw [hz] at h; cases h; exact partV_why hz
  | ok v a m =>
    rw [hz] at h
    change (if (nx l a).2.2 ≠ 0 then PR.bad (nx l a).2.1 (nx l a).2.2 else if (nx l a).1.1 ≠ 10 then PR.bad (nx l a).1.2.1 6 else PR.ok v 0 m) = .bad p e at h
    by_cases h6 : (nx l a).2.2 ≠ 0
    · rw [if_pos h6] at h; cases h; exact h6
    rw [if_neg h6] at h
    by_cases h7 : (nx l a).1.1 ≠ 10
    · rw [if_pos h7] at h; cases h; decide
    · rw [if_neg h7] at h; cases h
end
end Go.Proofs.YtbhekkkijomglaaGreatDoor
