/- Put together: RtI, RtJ. -/
import Derived.Test.YtbhekkkijomglaaGreatDoorRtG
import Derived.Test.YtbhekkkijomglaaGreatDoorRdIZ
import Derived.Test.YtbhekkkijomglaaGreatDoorRtFZ
namespace Go.Proofs.YtbhekkkijomglaaGreatDoor
/-! The reference's value: whatever fuel. -/
section
open Go.RowKit

theorem str_true (l : List UInt8) : (((bs l).toList == [116, 114, 117, 101]) = true ↔ l = trueW) ∧ (((bs l).toList == [102, 97, 108, 115, 101]) = true ↔ l = falseW) := by
  rw [Lib.toList_data, bs_list]
  exact ⟨beq_iff_eq, beq_iff_eq⟩
theorem check_leaf (bk : Nat) (bn : Int) : (bk = 1 → (V.mk bk bn []).check = if bn < -1099511627776 ∨ 1099511627776 < bn then 1 else 0) ∧ (bk = 2 → bn = 0 ∨ bn = 1 → (V.mk bk bn []).check = 0) ∧ (bk = 3 ∨ bk = 4 → bn = 0 → (V.mk bk bn []).check = 0) := by
  refine ⟨fun h => ?_, fun h h2 => ?_, fun h h2 => ?_⟩
  · subst h
    unfold V.check V.first nodeE
    by_cases hq : bn < -1099511627776 ∨ 1099511627776 < bn
    · simp [hq]
    · simp [hq, V.firsts, V.deep, V.deeps, V.size, V.sizes]
  · subst h
    rcases h2 with rfl | rfl <;> rfl
  · subst h2
    rcases h with rfl | rfl <;> rfl
/-- What a mark begins, as the reference's switch parts it. -/
theorem kinds_of (kk b d : Nat) (n : Int) (l : List UInt8) : ∃ (be bk : Nat) (bn : Int) (cl : Nat), Kinds kk n l be bk bn cl ∧ beginV (kk, b, d, n, l) = (.mk bk bn [], be) ∧
    (cl ≠ 0 → (bk = 3 ∨ bk = 4) ∧ cl = overK bk ∧ bn = 0) ∧ (cl = 0 → ¬ (bk = 3 ∨ bk = 4)) ∧ (be = 0 → bk = 1 ∨ (bk = 2 ∧ (bn = 0 ∨ bn = 1)) ∨ ((bk = 3 ∨ bk = 4) ∧ bn = 0)) := by
  obtain ⟨ht, hf⟩ := str_true l
  have nt : ¬ l = trueW → ((bs l).toList == [116, 114, 117, 101]) = false := fun h => by
    cases hq : ((bs l).toList == [116, 114, 117, 101]) with
    | false => rfl
    | true => exact absurd (ht.1 hq) h
  have nf : ¬ l = falseW → ((bs l).toList == [102, 97, 108, 115, 101]) = false := fun h => by
    cases hq : ((bs l).toList == [102, 97, 108, 115, 101]) with
    | false => rfl
    | true => exact absurd (hf.1 hq) h
  have htf : ¬ falseW = trueW := by decide
  unfold beginV
  by_cases h10 : kk = 10
  · exact ⟨4, 0, 0, 0, .inl ⟨h10, rfl, rfl, rfl, rfl⟩, by rw [if_pos h10], by simp, by simp, by simp⟩
  rw [if_neg h10]
  by_cases h8 : kk = 8
  · exact ⟨0, 1, n, 0, .inr (.inl ⟨h8, rfl, rfl, rfl, rfl⟩), by rw [if_pos h8], by simp, by simp, by simp⟩
  rw [if_neg h8]
  by_cases h7 : kk = 7
  · by_cases h1 : l = trueW
    · exact ⟨0, 2, 1, 0, .inr (.inr (.inl ⟨h7, ht.2 h1, rfl, rfl, rfl, rfl⟩)), by rw [if_pos ⟨h7, .inl h1⟩, if_pos h1], by simp, by simp, by simp⟩
    by_cases h2 : l = falseW
    · exact ⟨0, 2, 0, 0, .inr (.inr (.inr (.inl ⟨h7, nt h1, hf.2 h2, rfl, rfl, rfl, rfl⟩))), by rw [if_pos ⟨h7, .inr h2⟩, if_neg h1], by simp, by simp, by simp⟩
    · exact ⟨3, 0, 0, 0, .inr (.inr (.inr (.inr (.inr (.inr (.inl ⟨h7, nt h1, nf h2, rfl, rfl, rfl, rfl⟩)))))), by rw [if_neg (fun h => h.2.elim h1 h2), if_neg (by show ¬ kk = 5; omega), if_neg (by show ¬ kk = 3; omega)], by simp, by simp, by simp⟩
  rw [if_neg (fun h => h7 h.1)]
  by_cases h5 : kk = 5
  · exact ⟨0, 3, 0, 6, .inr (.inr (.inr (.inr (.inl ⟨h5, rfl, rfl, rfl, rfl⟩)))), by rw [if_pos h5], fun _ => ⟨.inl rfl, rfl, rfl⟩, by simp, by simp⟩
  rw [if_neg h5]
  by_cases h3 : kk = 3
  · exact ⟨0, 4, 0, 4, .inr (.inr (.inr (.inr (.inr (.inl ⟨h3, rfl, rfl, rfl, rfl⟩))))), by rw [if_pos h3], fun _ => ⟨.inr rfl, rfl, rfl⟩, by simp, by simp⟩
  rw [if_neg h3]
  exact ⟨3, 0, 0, 0, .inr (.inr (.inr (.inr (.inr (.inr (.inr ⟨⟨h10, h8, h7, h5, h3⟩, rfl, rfl, rfl, rfl⟩)))))), rfl, by simp, by simp, by simp⟩
theorem firstE_of (m deep item be bk : Nat) (bn : Int) (E0 : Nat) (hb0 : be = 0 → bk = 1 ∨ (bk = 2 ∧ (bn = 0 ∨ bn = 1)) ∨ ((bk = 3 ∨ bk = 4) ∧ bn = 0))
    (hE : E0 = if be ≠ 0 then be else if 64 < item then 5 else if 128 < deep then 9 else if 4096 < m + 1 then 5 else (V.mk bk bn []).check) : FirstE m deep item be bk bn E0 := by
  obtain ⟨c1, c2, c3⟩ := check_leaf bk bn
  refine ⟨fun h => ?_, fun h h2 => ?_, fun h h2 h3 => ?_, fun h h2 h3 h4 => ?_, fun h h2 h3 h4 h5 h6 => ?_, fun h h2 h3 h4 h5 => ?_⟩
  · rw [hE, if_pos h]
  · rw [hE, if_neg (by omega), if_pos h2]
  · rw [hE, if_neg (by omega), if_neg h2, if_pos h3]
  · rw [hE, if_neg (by omega), if_neg h2, if_neg h3, if_pos h4]
  · rw [hE, if_neg (by omega), if_neg h2, if_neg h3, if_neg h4, c1 h5, if_pos h6]
  · rw [hE, if_neg (by omega), if_neg h2, if_neg h3, if_neg h4]
    rcases hb0 h with h6 | ⟨h6, h7⟩ | ⟨h6, h7⟩
    · rw [c1 h6, if_neg (by have := h5 h6; omega)]
    · exact c2 h6 h7
    · exact c3 h6 h7

theorem tv_all : ∀ f, TV f := by
  intro f
  induction f using Nat.strongRecOn with
  | _ f ih =>
    intro s a m deep item g w hs ha hm hd1 hd hi hf hk
    cases f with
    | zero => omega
    | succ f =>
      obtain ⟨⟨⟨kk, b, d, n, l⟩, pl, er⟩, hx⟩ : ∃ x, nx s.data.toList a = x := ⟨_, rfl⟩
      by_cases her : er = 0
      · subst her
        obtain ⟨be, bk, bn, cl, hki, hb, hc1, hc0, hb0⟩ := kinds_of kk b d n l
        have hE := valE_lit hb m deep item
        obtain ⟨E0, hE0⟩ : ∃ E0, E0 = valE (kk, b, d, n, l) m deep item := ⟨_, rfl⟩
        rw [← hE0] at hE
        have hends : E0 = 0 → a < d ∧ d ≤ s.size := fun h => by
          have hends := nx_end (l := s.data.toList) (a := a) (by simpa using ha) (by rw [hx]) (by rw [hx]; exact valE_stop (m := m) (deep := deep) (item := item) (by rw [← hE0]; exact h))
          rw [hx] at hends
          exact ⟨hends.1, by simpa using hends.2⟩
        have hz : E0 = 0 → be = 0 ∧ item ≤ 64 ∧ deep ≤ 128 ∧ m + 1 ≤ 4096 := fun h => by
          have h2 := valE_zero (x := (kk, b, d, n, l)) (m := m) (deep := deep) (item := item) (by rw [← hE0]; exact h)
          rw [hb] at h2
          exact ⟨h2.1, h2.2.1, h2.2.2.1, h2.2.2.2.1⟩
        have p2 : E0 ≠ 0 → pval (f + 1) s.data.toList a m deep item = .bad b E0 := fun h => by
          have := pval_e2 (f := f) (l := s.data.toList) (a := a) (m := m) (deep := deep) (item := item) hx rfl (by rw [← hE0]; exact h)
          rw [← hE0] at this
          exact this
        have p3 : E0 = 0 → cl ≠ 0 → pval (f + 1) s.data.toList a m deep item = bindP (pitems f s.data.toList d (m + 1) bk deep []) (fun vs a' m' => .ok (.mk bk 0 vs) a' m') := fun h hc => by
          have := pval_e3 (f := f) (l := s.data.toList) (a := a) (m := m) (deep := deep) (item := item) hx rfl (by rw [← hE0]; exact h) (by rw [hb]; exact (hc1 hc).1)
          rw [hb] at this
          exact this
        have p4 : E0 = 0 → cl = 0 → pval (f + 1) s.data.toList a m deep item = .ok (.mk bk bn []) d (m + 1) := fun h hc => by
          have := pval_e4 (f := f) (l := s.data.toList) (a := a) (m := m) (deep := deep) (item := item) hx rfl (by rw [← hE0]; exact h) (by rw [hb]; exact hc0 hc)
          rw [hb] at this
          exact this
        refine tval_gen s a m deep item g w hs ha hm hk kk b d n l pl hx be bk bn cl hki E0 (firstE_of m deep item be bk bn E0 hb0 hE) _ (fun h en w' hp => ?_) f (fun f' hf' => ih f' (by omega)) (fun h hc => ?_) (fun h hc vs a' m' hR en w' hp => ?_) (fun h hc p e he hR en w' hp => ?_) (fun h hc en w' hp => ?_)
        · rw [p2 h]; exact hp
        · obtain ⟨q1, q2, q3⟩ := hc1 hc
          obtain ⟨_, _, r3, r4⟩ := hz h
          obtain ⟨s1, s2⟩ := hends h
          exact ⟨q1, q2, q3, r4, s2, hd1, by omega⟩
        · rw [p3 h hc, hR]; exact hp
        · rw [p3 h hc, hR]; exact hp
        · rw [p4 h hc]; exact hp
      · rw [pval_e1 hx her]
        exact (tvalue_next s a m deep item g w hs ha hk kk b d n l pl er her hx).mono fun en w' ⟨h1, h2, h3⟩ => ⟨_, _, h1, h2, h3⟩
end

/-! The walk of the reference's Part (a value that begins from a place on). -/
section
open Go.RowKit

set_option maxRecDepth 100000 in
set_option maxHeartbeats 4000000 in
theorem rpart_out (s : ByteArray) (i : Int) (w : World) (hs : s.size ≤ 20000) (h : i < 0 ∨ (s.size : Int) < i) :
    Calls Tryz.prog 16 #[.string s, .int .i64 i] w (PPost (.bad 0 1) w) := by
  have HB := Lib.hid ((Below.refl w.heap.size w).alloc (Nat.le_refl _) zV)
  have z := (Blk.new w 24 #[.int .u8 0, .int .i64 0, .slice none 0 0])
  obtain ⟨⟨z0, z1, z2⟩, f0, f1, f2⟩ := z.three
  clear z
  by_cases h0 : i < 0
  · clear h
    go_enter Tryz.func16, Tryz.ntmps16
    go_wp2_with fail
    refine bodyPost_ret (v := .tuple #[.agg #[.int .u8 0, .int .i64 0, .slice none 0 0], .int .i64 0, .int .i64 0, .int .i64 1]) (by simp [results, Tryz.results16, go_sem]) rfl ⟨rfl, ?_⟩
    exact HB.out
  · have h1 : (s.size : Int) < i := by omega
    clear h
    go_enter Tryz.func16, Tryz.ntmps16
    go_wp2_with fail
    refine bodyPost_ret (v := .tuple #[.agg #[.int .u8 0, .int .i64 0, .slice none 0 0], .int .i64 0, .int .i64 0, .int .i64 1]) (by simp [results, Tryz.results16, go_sem]) rfl ⟨rfl, ?_⟩
    exact HB.out

set_option maxRecDepth 100000 in
set_option maxHeartbeats 4000000 in
theorem rpart_bad (s : ByteArray) (at_ : Nat) (w : World) (ha : at_ ≤ s.size) (p er : Nat) (her : er ≠ 0)
    (hC : ∀ W g, TxB W g s at_ 0 0 0 → Calls Tryz.prog 37 #[.pointer (some ⟨g, 0, none⟩), .int .i64 1, .int .i64 1] W (TBad s g p er W)) :
    Calls Tryz.prog 16 #[.string s, .int .i64 at_] w (PPost (.bad p er) w) := by
  have h0 : ¬ (at_ : Int) < 0 := by omega
  have h1 : ¬ (s.size : Int) < (at_ : Int) := by omega
  have e1 : ((er : Int) == 0) = false := beq_eq_false_iff_ne.2 (by omega)
  have e2 : ((er : Int) != 0) = true := bne_iff_ne.2 (by omega)
  have HC := Lib.hid hC
  clear hC ha
  go_enter Tryz.func16, Tryz.ntmps16
  go_wp2_with fail
  have hT := Blk.new (w.alloc zV) 72 #[.string s, .int .i64 at_, .int .i64 0, .int .i64 0, .int .i64 0]
  have hR := (Blk.new w 24 #[.int .u8 0, .int .i64 0, .slice none 0 0]).alloc (.cells #[.string s, .int .i64 at_, .int .i64 0, .int .i64 0, .int .i64 0] 72)
  rw [World.size_alloc] at hT
  have hB := ((Below.refl w.heap.size w).alloc (Nat.le_refl _) zV).alloc (by simp) (.cells #[.string s, .int .i64 at_, .int .i64 0, .int .i64 0, .int .i64 0] 72)
  refine (HC.out _ _ hT).mono ?_
  rintro e' w3 ⟨aa, mm, rfl, hT3, hg3⟩
  have hR3 := hR.grown hg3 (fun q => by injection q with q; omega)
  have hB3 := below_of_only hB hg3 (by simp; omega) (Nat.le_succ _)
  have hR4 := hR3.alloc (.cells #[.int .u8 0, .int .i64 0, .slice none 0 0] 24)
  have hT4 : Blk (w3.alloc (.cells #[.int .u8 0, .int .i64 0, .slice none 0 0] 24)) (w.heap.size + 1) 72 #[.string s, .int .i64 aa, .int .i64 mm, .int .i64 p, .int .i64 er] := hT3.alloc _
  obtain ⟨⟨z0, z1, z2⟩, f0, f1, f2⟩ := hR4.three
  obtain ⟨⟨c0, c1, c2, c3, c4⟩, d0, d1, d2, d3, d4⟩ := hT4.five
  have e0 : ∀ i, w.heap.size + 1 ≠ (⟨w.heap.size, i, none⟩ : Addr).block := fun i => by show w.heap.size + 1 ≠ w.heap.size; omega
  have k1 := ((hT4.far (e0 0) (.int .u8 0)).far (e0 1) (.int .i64 0)).far (e0 2) (.slice none 0 0)
  have d1x := k1.cell 3
  have d2x := k1.cell 4
  simp at d1x d2x
  have hy := ((hR4.set_ 0 (.int .u8 0)).set_ 1 (.int .i64 0)).set_ 2 (.slice none 0 0)
  simp at hy
  have HY := Lib.hid hy.drew.three.1
  have hb0 := hB3.alloc hB3.size (.cells #[.int .u8 0, .int .i64 0, .slice none 0 0] 24)
  have hb := ((hb0.setCell (p := ⟨w.heap.size, 0, none⟩) (Nat.le_refl _) (.int .u8 0)).setCell (p := ⟨w.heap.size, 1, none⟩) (Nat.le_refl _) (.int .i64 0)).setCell (p := ⟨w.heap.size, 2, none⟩) (Nat.le_refl _) (.slice none 0 0)
  have HX := Lib.hid hb.drew
  clear hT hR hB hT3 hg3 hR3 hB3 HC hR4 hT4 hy hb0 hb k1 e0
  go_wp2_with fail
  rename_i K hKK
  have HK : Hid (∀ (q0 q1 q2 q3 q8 q9 q10 q11 q12 q13 q14 q15 q16 q17 q18 q19 q20 q21 q22 q23 q24 q25 q26 q27 q28 q29 q30 q31 q32 q33 q34 q35 q36 q37 q38 q39 q40 q41 q42 q43 : Value) (W : World), W.cell? ⟨w.heap.size, 0, none⟩ = some (.int .u8 0) → W.cell? ⟨w.heap.size, 1, none⟩ = some (.int .i64 0) → W.cell? ⟨w.heap.size, 2, none⟩ = some (.slice none 0 0) → Below w.heap.size w W → K { tmps := #[q0, q1, q2, q3, .pointer (some ⟨w.heap.size, 0, none⟩), .int .i64 0, .int .i64 p, .int .i64 er, q8, q9, q10, q11, q12, q13, q14, q15, q16, q17, q18, q19, q20, q21, q22, q23, q24, q25, q26, q27, q28, q29, q30, q31, q32, q33, q34, q35, q36, q37, q38, q39, q40, q41, q42, q43], defers := [] } W) := by
    intro q0 q1 q2 q3 q8 q9 q10 q11 q12 q13 q14 q15 q16 q17 q18 q19 q20 q21 q22 q23 q24 q25 q26 q27 q28 q29 q30 q31 q32 q33 q34 q35 q36 q37 q38 q39 q40 q41 q42 q43 W x0 x1 x2 hb
    refine hKK _ _ ?_
    clear hKK HX z0 z1 z2 f0 f1 f2 c0 c1 c2 c3 c4 d0 d1 d2 d3 d4 d1x d2x
    go_wp2_with fail
    refine bodyPost_ret (v := .tuple #[.agg #[.int .u8 0, .int .i64 0, .slice none 0 0], .int .i64 0, .int .i64 p, .int .i64 er]) ?_ rfl ⟨rfl, hb⟩
    simp [results, Tryz.results16, go_sem, x0, x1, x2]
  clear hKK
  go_region
  all_goals (
    refine HK.out _ _ _ _ _ _ _ _ _ _ _ _ _ _ _ _ _ _ _ _ _ _ _ _ _ _ _ _ _ _ _ _ _ _ _ _ _ _ _ _ _ ?_ ?_ ?_ ?_
    · exact HY.out.1
    · exact HY.out.2.1
    · exact HY.out.2.2
    · exact HX.out)

set_option maxRecDepth 100000 in
set_option maxHeartbeats 4000000 in
theorem rpart_ok (s : ByteArray) (at_ : Nat) (w : World) (ha : at_ ≤ s.size) (v : V) (a m : Nat)
    (hC : ∀ W g, TxB W g s at_ 0 0 0 → Calls Tryz.prog 37 #[.pointer (some ⟨g, 0, none⟩), .int .i64 1, .int .i64 1] W (TOk s g v a m W)) :
    Calls Tryz.prog 16 #[.string s, .int .i64 at_] w (PPost (.ok v a m) w) := by
  have h0 : ¬ (at_ : Int) < 0 := by omega
  have h1 : ¬ (s.size : Int) < (at_ : Int) := by omega
  have HC := Lib.hid hC
  clear hC ha
  go_enter Tryz.func16, Tryz.ntmps16
  go_wp2_with fail
  have hT := Blk.new (w.alloc zV) 72 #[.string s, .int .i64 at_, .int .i64 0, .int .i64 0, .int .i64 0]
  have hR := (Blk.new w 24 #[.int .u8 0, .int .i64 0, .slice none 0 0]).alloc (.cells #[.string s, .int .i64 at_, .int .i64 0, .int .i64 0, .int .i64 0] 72)
  rw [World.size_alloc] at hT
  have hB := ((Below.refl w.heap.size w).alloc (Nat.le_refl _) zV).alloc (by simp) (.cells #[.string s, .int .i64 at_, .int .i64 0, .int .i64 0, .int .i64 0] 72)
  refine (HC.out _ _ hT).mono ?_
  rintro e' w3 ⟨A, c, rfl, hT3, hg3, hV3⟩
  have hR3 := hR.grown hg3 (fun q => by injection q with q; omega)
  have hB3 := below_of_only hB hg3 (by simp; omega) (Nat.le_succ _)
  have hs3 := hg3.size
  have hz9 : ((w.alloc zV).alloc (.cells #[.string s, .int .i64 at_, .int .i64 0, .int .i64 0, .int .i64 0] 72)).heap.size = w.heap.size + 2 := by simp
  rw [hz9] at hV3 hs3
  have hR4 := hR3.alloc (.cells #[.int .u8 v.k, .int .i64 v.n, .slice A v.l.length c] 24)
  have hT4 : Blk (w3.alloc (.cells #[.int .u8 v.k, .int .i64 v.n, .slice A v.l.length c] 24)) (w.heap.size + 1) 72 #[.string s, .int .i64 a, .int .i64 m, .int .i64 0, .int .i64 0] := hT3.alloc _
  have hK4 := Blk.new w3 24 #[.int .u8 v.k, .int .i64 v.n, .slice A v.l.length c]
  obtain ⟨⟨z0, z1, z2⟩, f0, f1, f2⟩ := hR4.three
  obtain ⟨⟨c0, c1, c2, c3, c4⟩, d0, d1, d2, d3, d4⟩ := hT4.five
  obtain ⟨⟨v0, v1, v2⟩, _⟩ := hK4.three
  have e0 : ∀ i, w.heap.size + 1 ≠ (⟨w.heap.size, i, none⟩ : Addr).block := fun i => by show w.heap.size + 1 ≠ w.heap.size; omega
  have e1 : ∀ i, w3.heap.size ≠ (⟨w.heap.size, i, none⟩ : Addr).block := fun i => by show w3.heap.size ≠ w.heap.size; omega
  have k1 := ((hT4.far (e0 0) (.int .u8 v.k)).far (e0 1) (.int .i64 v.n)).far (e0 2) (.slice A v.l.length c)
  have k2 := ((hK4.far (e1 0) (.int .u8 v.k)).far (e1 1) (.int .i64 v.n)).far (e1 2) (.slice A v.l.length c)
  have d1x := k1.cell 1
  simp at d1x
  obtain ⟨⟨u0, u1, u2⟩, _⟩ := k2.three
  have hy := ((hR4.set_ 0 (.int .u8 v.k)).set_ 1 (.int .i64 v.n)).set_ 2 (.slice A v.l.length c)
  simp at hy
  have HY := Lib.hid hy.drew.three.1
  have hb0 := hB3.alloc hB3.size (.cells #[.int .u8 v.k, .int .i64 v.n, .slice A v.l.length c] 24)
  have hb := ((hb0.setCell (p := ⟨w.heap.size, 0, none⟩) (Nat.le_refl _) (.int .u8 v.k)).setCell (p := ⟨w.heap.size, 1, none⟩) (Nat.le_refl _) (.int .i64 v.n)).setCell (p := ⟨w.heap.size, 2, none⟩) (Nat.le_refl _) (.slice A v.l.length c)
  have hV4 := hV3.fresh_keep (B' := w.heap.size + 2) (only_alloc (only_refl w3 none) (.cells #[.int .u8 v.k, .int .i64 v.n, .slice A v.l.length c] 24)) (Nat.le_refl _) (fun g q => by cases q)
  have hv := fresh_three (R := w.heap.size) (B' := w.heap.size) hV4 (by omega) (by omega) (.int .u8 v.k) (.int .i64 v.n) (.slice A v.l.length c)
  have HX := Lib.hid (And.intro hb.drew (vsp_drew hv))
  clear hT hR hB hT3 hg3 hV3 hR3 hB3 hs3 hz9 HC hR4 hT4 hK4 hy hb0 hb k1 k2 e0 e1 hV4 hv
  go_wp2_with fail
  rename_i K hKK
  have HK : Hid (∀ (q0 q1 q2 q3 q8 q9 q10 q11 q12 q13 q14 q15 q16 q17 q18 q19 q20 q21 q22 q23 q24 q25 q26 q27 q28 q29 q30 q31 q32 q33 q34 q35 q36 q37 q38 q39 q40 q41 q42 q43 : Value) (W : World), W.cell? ⟨w.heap.size, 0, none⟩ = some (.int .u8 v.k) → W.cell? ⟨w.heap.size, 1, none⟩ = some (.int .i64 v.n) → W.cell? ⟨w.heap.size, 2, none⟩ = some (.slice A v.l.length c) → Below w.heap.size w W → Vsp W (Fr w.heap.size W) A v.l → K { tmps := #[q0, q1, q2, q3, .pointer (some ⟨w.heap.size, 0, none⟩), .int .i64 a, .int .i64 0, .int .i64 0, q8, q9, q10, q11, q12, q13, q14, q15, q16, q17, q18, q19, q20, q21, q22, q23, q24, q25, q26, q27, q28, q29, q30, q31, q32, q33, q34, q35, q36, q37, q38, q39, q40, q41, q42, q43], defers := [] } W) := by
    intro q0 q1 q2 q3 q8 q9 q10 q11 q12 q13 q14 q15 q16 q17 q18 q19 q20 q21 q22 q23 q24 q25 q26 q27 q28 q29 q30 q31 q32 q33 q34 q35 q36 q37 q38 q39 q40 q41 q42 q43 W x0 x1 x2 hb hv
    refine hKK _ _ ?_
    clear hKK HX z0 z1 z2 f0 f1 f2 c0 c1 c2 c3 c4 d0 d1 d2 d3 d4 d1x v0 v1 v2 u0 u1 u2
    go_wp2_with fail
    refine bodyPost_ret (v := .tuple #[.agg #[.int .u8 v.k, .int .i64 v.n, .slice A v.l.length c], .int .i64 a, .int .i64 0, .int .i64 0]) ?_ rfl ⟨A, c, rfl, hb, hv⟩
    simp [results, Tryz.results16, go_sem, x0, x1, x2]
  clear hKK
  go_region
  all_goals (
    refine HK.out _ _ _ _ _ _ _ _ _ _ _ _ _ _ _ _ _ _ _ _ _ _ _ _ _ _ _ _ _ _ _ _ _ _ _ _ _ _ _ _ _ ?_ ?_ ?_ ?_ ?_
    · exact HY.out.1
    · exact HY.out.2.1
    · exact HY.out.2.2
    · exact HX.out.1
    · exact HX.out.2)
end
end Go.Proofs.YtbhekkkijomglaaGreatDoor
