/- Put together: RdM, BldB. -/
import Derived.Test.YtbhekkkijomglaaGreatDoorRdL
import Derived.Test.YtbhekkkijomglaaGreatDoorBldZ
import Derived.Lib.FrozenHead2
namespace Go.Proofs.YtbhekkkijomglaaGreatDoor
/-! The walk of Read: more than a value; and whatever text. -/
section
open Go.RowKit

set_option maxRecDepth 100000 in
set_option maxHeartbeats 8000000 in
theorem read_over (s : ByteArray) (w : World) (hs : s.size ≤ 65536) (v : V) (a m : Nat) (ha : a ≤ s.size) (hv : Env w) (kk b d : Nat) (n : Int) (l : List UInt8) (pl : Nat) (hkk : kk ≠ 10) (hx : nx s.data.toList a = ((kk, b, d, n, l), pl, 0))
    (hC : Calls Tryz.prog 18 #[.string s, .int .i64 0] (w.alloc zV) (PPost (.ok v a m) (w.alloc zV))) :
    Calls Tryz.prog 17 #[.string s] w (RPost (.bad b 6) w) := by
  have HC := Lib.hid hC
  have HN := Lib.hid (fun W hW => nx_call s a W (by omega) ha hW kk b d n l pl 0 hx)
  have h1 : ¬ (65536 : Int) < (s.size : Int) := by omega
  have e1 : ((kk : Int) != 10) = true := bne_iff_ne.2 (by omega)
  have e2 : ((kk : Int) == 10) = false := beq_eq_false_iff_ne.2 (by omega)
  clear hC hs hx hkk
  go_enter Tryz.func17, Tryz.ntmps17
  go_wp2_with fail
  refine HC.out.mono ?_
  rintro e' w2 ⟨A, c, he, hb, hV⟩
  change e' = .returned (.tuple #[.agg #[.int .u8 v.k, .int .i64 v.n, .slice A v.l.length c], .int .i64 a, .int .i64 0, .int .i64 0]) at he
  subst he
  have r1 := res_held hb
  have r2 := res_set r1 (.int .u8 v.k) (.int .i64 v.n) (.slice A v.l.length c)
  obtain ⟨⟨z0, z1, z2⟩, f0, f1, f2⟩ := r1.1.three
  have HR := Lib.hid r2
  clear r1 r2 hb hV HC
  go_wp2_with fail
  refine (HN.out _ (hv.step HR.out.2)).mono ?_
  rintro e' w3 ⟨he, hb3⟩
  change e' = .returned (.tuple #[.agg #[.int .u8 kk, .int .i64 b, .int .i64 d, .int .i64 n, .string (bs l)], .int .i64 pl, .int .i64 0]) at he
  subst he
  have r3 := res_below (res_below HR.out hb3) ((Below.refl _ _).alloc (Nat.le_refl _) (.cells #[.int .u8 kk, .int .i64 b, .int .i64 d, .int .i64 n, .string (bs l)] 54))
  have r4 := res_set r3 (.int .u8 0) (.int .i64 0) (.slice none 0 0)
  clear z0 z1 z2 f0 f1 f2
  obtain ⟨⟨y0, y1, y2⟩, g0, g1, g2⟩ := r3.1.three
  have hlt : w.heap.size < w3.heap.size := Nat.lt_of_lt_of_le HR.out.1.lt hb3.size
  have e0 : ∀ i, w3.heap.size ≠ (⟨w.heap.size, i, none⟩ : Addr).block := fun i => by show w3.heap.size ≠ w.heap.size; omega
  have km := Blk.new w3 54 #[.int .u8 kk, .int .i64 b, .int .i64 d, .int .i64 n, .string (bs l)]
  have c1 := km.cell 1
  have k1 := ((km.far (e0 0) (.int .u8 0)).far (e0 1) (.int .i64 0)).far (e0 2) (.slice none 0 0)
  have d1 := k1.cell 1
  simp at c1 d1
  have HX := Lib.hid r4.2.drew
  have HY := Lib.hid r4.1.drew.three.1
  clear r3 r4 hb3 HN HR e0 km k1 hlt
  go_wp2_with fail
  rename_i K hKK
  have HK : Hid (∀ (q0 q1 q5 q6 q7 q8 q9 q10 q11 q12 q13 q14 q15 q16 q17 q18 q19 q20 q21 q22 q23 q24 q25 q26 q27 q28 q29 q30 q31 q32 q33 q34 q35 q36 q37 q38 q39 q40 q41 q42 q43 : Value) (W : World), W.cell? ⟨w.heap.size, 0, none⟩ = some (.int .u8 0) → W.cell? ⟨w.heap.size, 1, none⟩ = some (.int .i64 0) → W.cell? ⟨w.heap.size, 2, none⟩ = some (.slice none 0 0) → Below w.heap.size w W →
      K { tmps := #[q0, q1, .pointer (some ⟨w.heap.size, 0, none⟩), .int .i64 b, .int .i64 6, q5, q6, q7, q8, q9, q10, q11, q12, q13, q14, q15, q16, q17, q18, q19, q20, q21, q22, q23, q24, q25, q26, q27, q28, q29, q30, q31, q32, q33, q34, q35, q36, q37, q38, q39, q40, q41, q42, q43], defers := [] } W) := by
    intro q0 q1 q5 q6 q7 q8 q9 q10 q11 q12 q13 q14 q15 q16 q17 q18 q19 q20 q21 q22 q23 q24 q25 q26 q27 q28 q29 q30 q31 q32 q33 q34 q35 q36 q37 q38 q39 q40 q41 q42 q43 W x0 x1 x2 hb
    refine hKK _ _ ?_
    clear hKK HX HY y0 y1 y2 g0 g1 g2 c1 d1
    go_wp2_with fail
    refine bodyPost_ret (v := .tuple #[.agg #[.int .u8 0, .int .i64 0, .slice none 0 0], .int .i64 b, .int .i64 6]) ?_ rfl ⟨rfl, hb⟩
    simp [results, Tryz.results17, go_sem, x0, x1, x2]
  clear hKK
  go_region
  all_goals (
    refine HK.out _ _ _ _ _ _ _ _ _ _ _ _ _ _ _ _ _ _ _ _ _ _ _ _ _ _ _ _ _ _ _ _ _ _ _ _ _ _ _ _ _ _ ?_ ?_ ?_ ?_
    · exact HY.out.1
    · exact HY.out.2.1
    · exact HY.out.2.2
    · exact HX.out)

theorem read_any (s : ByteArray) (w : World) (hs : s.size ≤ 1048576) (hv : Env w) : Calls Tryz.prog 17 #[.string s] w (RPost (readV s.data.toList) w) := by
  have hlen : s.data.toList.length = s.size := by simp
  unfold readV
  rw [hlen]
  by_cases h : 65536 < s.size
  · rw [if_pos h]
    exact read_long s w h
  · rw [if_neg h]
    have hP := part_any s 0 (w.alloc zV) hs (hv.alloc _)
    cases hz : partV s.data.toList 0 with
    | bad p e =>
      rw [hz] at hP
      exact read_part s w (by omega) p e (partV_why hz) hP
    | ok v a m =>
      rw [hz] at hP
      have hz2 := hz
      have ha : a ≤ s.size := by
        have e := partV_in (l := s.data.toList) (a := 0) (Nat.zero_le _)
        rw [show ((0 : Nat) : Int) = 0 from rfl, hz2] at e
        have := ((read_ends _).1 _ _ _ _ _ _ _ _ (Nat.zero_le _) e.symm).2
        omega
      show Calls _ _ _ _ (RPost (if (nx s.data.toList a).2.2 ≠ 0 then _ else if (nx s.data.toList a).1.1 ≠ 10 then _ else _) w)
      obtain ⟨⟨⟨kk, b, d, n, l⟩, pl, er⟩, hx⟩ : ∃ x, nx s.data.toList a = x := ⟨_, rfl⟩
      rw [hx]
      by_cases her : er = 0
      · subst her
        rw [if_neg (by simp)]
        by_cases hk : kk = 10
        · subst hk
          rw [if_neg (by simp)]
          exact read_okk s w (by omega) v a m ha hv b d n l pl hx hP
        · rw [if_pos hk]
          exact read_over s w (by omega) v a m ha hv kk b d n l pl hk hx hP
      · rw [if_pos her]
        exact read_next s w (by omega) v a m ha hv kk b d n l pl er her hx hP
theorem readV_why {l : List UInt8} {p e : Nat} (h : readV l = .bad p e) : e ≠ 0 := by
  unfold readV at h
  by_cases h5 : 65536 < l.length
  · rw [if_pos h5] at h; cases h; decide
  rw [if_neg h5] at h
  cases hz : partV l 0 with
  | bad p1 e1 => rw [hz] at h; cases h; exact partV_why hz
  | ok v a m =>
    rw [hz] at h
    change (if (nx l a).2.2 ≠ 0 then PR.bad (nx l a).2.1 (nx l a).2.2 else if (nx l a).1.1 ≠ 10 then PR.bad (nx l a).1.2.1 6 else PR.ok v 0 m) = .bad p e at h
    by_cases h6 : (nx l a).2.2 ≠ 0
    · rw [if_pos h6] at h; cases h; exact h6
    rw [if_neg h6] at h
    by_cases h7 : (nx l a).1.1 ≠ 10
    · rw [if_pos h7] at h; cases h; decide
    · rw [if_neg h7] at h; cases h
end

/-! strings.Builder's WriteByte (the shelf's walk, turned to this program). -/
section
open Go.RowKit Go.Lib

set_option maxHeartbeats 2000000 in
set_option maxRecDepth 100000 in
theorem writebyte_any (B b : Nat) (xs : List Value) (c : Int) (w : World) (h : Lib.IsBuilderF 62 5 B b xs w) (hlen : xs.length + 1 ≤ 140737488355328) (hBw : B ≤ w.heap.size) :
    Calls Tryz.prog 46 #[.pointer (some ⟨b, 0, none⟩), .int .u8 c] w fun e w' => e = .returned .nilIface ∧ (Lib.BuilderAtF 62 5 B b (.pointer (some ⟨b, 0, none⟩)) (xs ++ [.int .u8 c]) w' ∧ Below B w w') := by
  obtain ⟨i0, hi, hz0, hz1, hz2⟩ := info_parts (Tryz.Builder_Extra_169).infoByte
  go_enter Tryz.func46, Tryz.ntmps46
  go_wp2_with fail
  refine (check_any B b xs _ h).mono ?_
  rintro e w1 ⟨rfl, h1, hb1⟩
  obtain ⟨hB, v, hbk, hown, hne⟩ := h1
  have c0 : w1.cell? ⟨b, 0, none⟩ = some (.pointer (some ⟨b, 0, none⟩)) := by rw [Lib.cell_of_heap hbk]; rfl
  have c1 : w1.cell? ⟨b, 1, none⟩ = some v := by rw [Lib.cell_of_heap hbk]; rfl
  go_wp2_with (at_builtin; refine wpList_append_ownF _ rfl _ _ 40 rfl B 5 i0 (.int .u8 0) 1 1 Tryz.underlying40 hi hz0 hz1 hz2 rfl (by decide) _ _ _ rfl (hown.alloc _) ⟨w1.heap.size, 0, none⟩ 1 1 [.int .u8 c] rfl rfl ?c1 ?c2 ?c3 ?c4 ?c5 ?_)
  case c1 =>
    intro j u hj
    match j, hj with
    | 0, hj => simp at hj; subst hj; simp [Addr.add]
  case c2 => intro u hu; simp at hu; subst hu; rfl
  case c3 => unfold maxLen; omega
  case c4 => omega
  case c5 => have := hb1.size; simp; omega
  intro v' w2 hown' hgrow _
  have hlt : b < w1.heap.size := by
    rcases Nat.lt_or_ge b w1.heap.size with h' | h'
    · exact h'
    · simp [Array.getElem?_eq_none h'] at hbk
  have hb2 : w2.heap[b]? = some (.cells #[.pointer (some ⟨b, 0, none⟩), v] 62 (0, 0)) := by
    rw [hgrow.block b (by simp; omega) (fun e => hne e.symm), Lib.alloc_old w1 _ b hlt]
    exact hbk
  have d0 : w2.cell? ⟨b, 0, none⟩ = some (.pointer (some ⟨b, 0, none⟩)) := by rw [Lib.cell_of_heap hb2]; rfl
  have d1 : w2.cell? ⟨b, 1, none⟩ = some v := by rw [Lib.cell_of_heap hb2]; rfl
  have f1 : w2.frozen? ⟨b, 1, none⟩ = false := Lib.frozen_of_heap hb2 1
  obtain ⟨ao, n', cap, rfl⟩ : ∃ ao n' cap, v' = .slice ao n' cap := by
    rcases hown'.2 with ⟨hv, _⟩ | ⟨g, cap, cur, fz, hv, _⟩
    · exact ⟨_, _, _, hv⟩
    · exact ⟨_, _, _, hv⟩
  go_wp2
  go_ret
  refine ⟨rfl, ?_, ?_⟩
  · exact Lib.BuilderAtF.put (T := 62) (e := 5) hB hb2 (bs' := xs ++ [.int .u8 c]) (by simpa using hown') (by decide)
  · exact ((hb1.alloc (by have := hb1.size; omega) _).grown hgrow (by have := hb1.size; simp; omega) (fun k hk => (hown.lt k hk).1)).setCell (p := ⟨b, 1, none⟩) hB _
end
end Go.Proofs.YtbhekkkijomglaaGreatDoor
