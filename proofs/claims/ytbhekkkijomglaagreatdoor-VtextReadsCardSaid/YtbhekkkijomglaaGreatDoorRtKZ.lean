/- Put together: RtK, Spo, AwP, Bld. -/
import Derived.Test.YtbhekkkijomglaaGreatDoorRtIZ
import Derived.Test.YtbhekkkijomglaaGreatDoorRdLZ
import Derived.Test.YtbhekkkijomglaaGreatDoorVspMZ
import Derived.Test.YtbhekkkijomglaaGreatDoorVtU
import Derived.Test.YtbhekkkijomglaaGreatDoorLexW3Z
import Derived.Shelf.Strings.BuilderF
namespace Go.Proofs.YtbhekkkijomglaaGreatDoor
/-! The walk of the reference's Read (a value's text). -/
section
open Go.RowKit

theorem rpart_any (hTV : ∀ f, TV f) (s : ByteArray) (i : Int) (w : World) (hs : s.size ≤ 20000) : Calls Tryz.prog 16 #[.string s, .int .i64 i] w (PPost (partV s.data.toList i) w) := by
  have hlen : s.data.toList.length = s.size := by simp
  by_cases h : i < 0 ∨ (s.size : Int) < i
  · have e : partV s.data.toList i = .bad 0 1 := by unfold partV; rw [if_pos (by rw [hlen]; exact h)]
    rw [e]
    exact rpart_out s i w hs h
  · obtain ⟨a, rfl⟩ : ∃ a : Nat, i = a := ⟨i.toNat, by omega⟩
    have ha : a ≤ s.size := by omega
    rw [partV_in (by rw [hlen]; exact ha)]
    have hC := fun W g (hT : TxB W g s a 0 0 0) => hTV (fuelV s.data.toList) s a 0 1 1 g W hs ha (by omega) (by omega) (by omega) (by omega) (by unfold fuelV; rw [hlen]; omega) hT
    have hw := (read_why (fuelV s.data.toList)).1 s.data.toList a 0 1 1
    cases hz : pval (fuelV s.data.toList) s.data.toList a 0 1 1 with
    | bad p e =>
      rw [hz] at hC
      exact rpart_bad s a w ha p e (hw p e (by rw [hlen]; exact ha) (by unfold fuelV; rw [hlen]; omega) hz) hC
    | ok v b m =>
      rw [hz] at hC
      exact rpart_ok s a w ha v b m hC

set_option maxRecDepth 100000 in
set_option maxHeartbeats 4000000 in
theorem rread_part (s : ByteArray) (w : World) (hs : s.size ≤ 20000) (p e : Nat) (he : e ≠ 0)
    (hC : Calls Tryz.prog 16 #[.string s, .int .i64 0] (w.alloc zV) (PPost (.bad p e) (w.alloc zV))) :
    Calls Tryz.prog 15 #[.string s] w (RPost (.bad p e) w) := by
  have HC := Lib.hid hC
  have h1 : ¬ (65536 : Int) < (s.size : Int) := by omega
  have e1 : ((e : Int) != 0) = true := bne_iff_ne.2 (by omega)
  have e2 : ((e : Int) == 0) = false := beq_eq_false_iff_ne.2 (by omega)
  clear hC hs he
  go_enter Tryz.func15, Tryz.ntmps15
  go_wp2_with fail
  refine HC.out.mono ?_
  rintro e' w2 ⟨rfl, hb⟩
  have r1 := res_below (res_held hb) ((Below.refl w2.heap.size w2).alloc (Nat.le_refl _) (.cells #[.int .u8 0, .int .i64 0, .slice none 0 0] 24))
  have r3 := res_set r1 (.int .u8 0) (.int .i64 0) (.slice none 0 0)
  obtain ⟨⟨y0, y1, y2⟩, g0, g1, g2⟩ := r1.1.three
  have HX := Lib.hid r3.2
  clear r1 r3 hb HC
  go_wp2_with fail
  refine bodyPost_ret (v := .tuple #[.agg #[.int .u8 0, .int .i64 0, .slice none 0 0], .int .i64 p, .int .i64 e]) (by simp [results, Tryz.results15, go_sem, y0, y1, y2]) rfl ⟨rfl, ?_⟩
  exact HX.out

set_option maxRecDepth 100000 in
set_option maxHeartbeats 4000000 in
theorem rread_next (s : ByteArray) (w : World) (hs : s.size ≤ 20000) (v : V) (a m : Nat) (ha : a ≤ s.size) (kk b d : Nat) (n : Int) (l : List UInt8) (pl er : Nat) (her : er ≠ 0) (hx : nx s.data.toList a = ((kk, b, d, n, l), pl, er))
    (hC : Calls Tryz.prog 16 #[.string s, .int .i64 0] (w.alloc zV) (PPost (.ok v a m) (w.alloc zV))) :
    Calls Tryz.prog 15 #[.string s] w (RPost (.bad pl er) w) := by
  have HC := Lib.hid hC
  have HN := Lib.hid (fun W => nx_ref s a W (by omega) ha kk b d n l pl er hx)
  have h1 : ¬ (65536 : Int) < (s.size : Int) := by omega
  have e1 : ((er : Int) != 0) = true := bne_iff_ne.2 (by omega)
  have e2 : ((er : Int) == 0) = false := beq_eq_false_iff_ne.2 (by omega)
  clear hC hs her hx
  go_enter Tryz.func15, Tryz.ntmps15
  go_wp2_with fail
  refine HC.out.mono ?_
  rintro e' w2 ⟨A, c, he, hb, hV⟩
  change e' = .returned (.tuple #[.agg #[.int .u8 v.k, .int .i64 v.n, .slice A v.l.length c], .int .i64 a, .int .i64 0, .int .i64 0]) at he
  subst he
  have r2 := res_below (res_held hb) ((Below.refl w2.heap.size w2).alloc (Nat.le_refl _) (.cells #[.int .u8 v.k, .int .i64 v.n, .slice A v.l.length c] 24))
  obtain ⟨⟨z0, z1, z2⟩, f0, f1, f2⟩ := r2.1.three
  have HR := Lib.hid r2
  clear r2 hb hV HC
  go_wp2_with fail
  refine (HN.out _).mono ?_
  rintro e' w3 ⟨rfl, hb3⟩
  have r3 := res_below (res_below HR.out hb3) ((Below.refl _ _).alloc (Nat.le_refl _) (.cells #[.int .u8 kk, .int .i64 b, .int .i64 d, .int .i64 n, .string (bs l)] 67))
  have r4 := res_set r3 (.int .u8 0) (.int .i64 0) (.slice none 0 0)
  clear z0 z1 z2 f0 f1 f2
  obtain ⟨⟨y0, y1, y2⟩, g0, g1, g2⟩ := r3.1.three
  have HX := Lib.hid r4.2
  clear r3 r4 hb3 HN HR
  go_wp2_with fail
  refine bodyPost_ret (v := .tuple #[.agg #[.int .u8 0, .int .i64 0, .slice none 0 0], .int .i64 pl, .int .i64 er]) (by simp [results, Tryz.results15, go_sem, y0, y1, y2]) rfl ⟨rfl, ?_⟩
  exact HX.out

set_option maxRecDepth 100000 in
set_option maxHeartbeats 4000000 in
theorem rread_okk (s : ByteArray) (w : World) (hs : s.size ≤ 20000) (v : V) (a m : Nat) (ha : a ≤ s.size) (b d : Nat) (n : Int) (l : List UInt8) (pl : Nat) (hx : nx s.data.toList a = ((10, b, d, n, l), pl, 0))
    (hC : Calls Tryz.prog 16 #[.string s, .int .i64 0] (w.alloc zV) (PPost (.ok v a m) (w.alloc zV))) :
    Calls Tryz.prog 15 #[.string s] w (RPost (.ok v 0 m) w) := by
  have HC := Lib.hid hC
  have HN := Lib.hid (fun W => nx_ref s a W (by omega) ha 10 b d n l pl 0 hx)
  have h1 : ¬ (65536 : Int) < (s.size : Int) := by omega
  clear hC hs hx
  go_enter Tryz.func15, Tryz.ntmps15
  go_wp2_with fail
  refine HC.out.mono ?_
  rintro e' w2 ⟨A, c, he, hb, hV⟩
  change e' = .returned (.tuple #[.agg #[.int .u8 v.k, .int .i64 v.n, .slice A v.l.length c], .int .i64 a, .int .i64 0, .int .i64 0]) at he
  subst he
  have r2 := res_below (res_held hb) ((Below.refl w2.heap.size w2).alloc (Nat.le_refl _) (.cells #[.int .u8 v.k, .int .i64 v.n, .slice A v.l.length c] 24))
  have hk2 := Blk.new w2 24 #[.int .u8 v.k, .int .i64 v.n, .slice A v.l.length c]
  obtain ⟨⟨z0, z1, z2⟩, f0, f1, f2⟩ := r2.1.three
  have hV2 := (show Vsp w2 (Fr (w.heap.size + 1) w2) A v.l from by rw [World.size_alloc] at hV; exact hV).fresh_keep (only_alloc (only_refl w2 none) (.cells #[.int .u8 v.k, .int .i64 v.n, .slice A v.l.length c] 24)) (Nat.le_refl _) (fun g q => by cases q)
  have HR := Lib.hid (And.intro r2 hV2)
  have HK := Lib.hid (And.intro hk2 (show w.heap.size < w2.heap.size from by have := hb.size; simp at this; omega))
  clear r2 hb hV hV2 HC hk2
  go_wp2_with fail
  refine (HN.out _).mono ?_
  rintro e' w3 ⟨he, hb3⟩
  change e' = .returned (.tuple #[.agg #[.int .u8 10, .int .i64 b, .int .i64 d, .int .i64 n, .string (bs l)], .int .i64 pl, .int .i64 0]) at he
  subst he
  have hb4 := (Below.refl w3.heap.size w3).alloc (Nat.le_refl _) (.cells #[.int .u8 10, .int .i64 b, .int .i64 d, .int .i64 n, .string (bs l)] 67)
  have r3 := res_below (res_below HR.out.1 hb3) hb4
  obtain ⟨⟨v0, v1, v2⟩, _⟩ := ((HK.out.1.below hb3 (by simp)).below hb4 (by have := hb3.size; simp at this; omega)).three
  have hw2 := HK.out.2
  have hV3 := (HR.out.2.fresh_keep (only_of_below hb3 none) (Nat.le_refl _) (fun g q => by cases q)).fresh_keep (only_of_below hb4 none) (Nat.le_refl _) (fun g q => by cases q)
  have r4 := res_set r3 (.int .u8 v.k) (.int .i64 v.n) (.slice A v.l.length c)
  have hV4 := fresh_three (R := w.heap.size) (B' := w.heap.size) hV3 (by omega) (by omega) (.int .u8 v.k) (.int .i64 v.n) (.slice A v.l.length c)
  clear z0 z1 z2 f0 f1 f2
  obtain ⟨⟨y0, y1, y2⟩, g0, g1, g2⟩ := r3.1.three
  have HX := Lib.hid (And.intro r4.2 hV4)
  clear r3 r4 hb3 hb4 hV3 hV4 HN HR
  go_wp2_with fail
  refine bodyPost_ret (v := .tuple #[.agg #[.int .u8 v.k, .int .i64 v.n, .slice A v.l.length c], .int .i64 0, .int .i64 0]) (by simp [results, Tryz.results15, go_sem, y0, y1, y2]) rfl ⟨A, c, rfl, ?_, ?_⟩
  · exact HX.out.1
  · exact HX.out.2
set_option maxRecDepth 100000 in
set_option maxHeartbeats 8000000 in
theorem rread_over (s : ByteArray) (w : World) (hs : s.size ≤ 20000) (v : V) (a m : Nat) (ha : a ≤ s.size) (kk b d : Nat) (n : Int) (l : List UInt8) (pl : Nat) (hkk : kk ≠ 10) (hx : nx s.data.toList a = ((kk, b, d, n, l), pl, 0))
    (hC : Calls Tryz.prog 16 #[.string s, .int .i64 0] (w.alloc zV) (PPost (.ok v a m) (w.alloc zV))) :
    Calls Tryz.prog 15 #[.string s] w (RPost (.bad b 6) w) := by
  have HC := Lib.hid hC
  have HN := Lib.hid (fun W => nx_ref s a W (by omega) ha kk b d n l pl 0 hx)
  have h1 : ¬ (65536 : Int) < (s.size : Int) := by omega
  have e1 : ((kk : Int) != 10) = true := bne_iff_ne.2 (by omega)
  have e2 : ((kk : Int) == 10) = false := beq_eq_false_iff_ne.2 (by omega)
  clear hC hs hx hkk
  go_enter Tryz.func15, Tryz.ntmps15
  go_wp2_with fail
  refine HC.out.mono ?_
  rintro e' w2 ⟨A, c, he, hb, hV⟩
  change e' = .returned (.tuple #[.agg #[.int .u8 v.k, .int .i64 v.n, .slice A v.l.length c], .int .i64 a, .int .i64 0, .int .i64 0]) at he
  subst he
  have r2 := res_below (res_held hb) ((Below.refl w2.heap.size w2).alloc (Nat.le_refl _) (.cells #[.int .u8 v.k, .int .i64 v.n, .slice A v.l.length c] 24))
  obtain ⟨⟨z0, z1, z2⟩, f0, f1, f2⟩ := r2.1.three
  have HR := Lib.hid r2
  clear r2 hb hV HC
  go_wp2_with fail
  refine (HN.out _).mono ?_
  rintro e' w3 ⟨he, hb3⟩
  change e' = .returned (.tuple #[.agg #[.int .u8 kk, .int .i64 b, .int .i64 d, .int .i64 n, .string (bs l)], .int .i64 pl, .int .i64 0]) at he
  subst he
  have r3 := res_below (res_below HR.out hb3) ((Below.refl _ _).alloc (Nat.le_refl _) (.cells #[.int .u8 kk, .int .i64 b, .int .i64 d, .int .i64 n, .string (bs l)] 67))
  have r4 := res_set r3 (.int .u8 0) (.int .i64 0) (.slice none 0 0)
  clear z0 z1 z2 f0 f1 f2
  obtain ⟨⟨y0, y1, y2⟩, g0, g1, g2⟩ := r3.1.three
  have hlt : w.heap.size < w3.heap.size := Nat.lt_of_lt_of_le HR.out.1.lt hb3.size
  have e0 : ∀ i, w3.heap.size ≠ (⟨w.heap.size, i, none⟩ : Addr).block := fun i => by show w3.heap.size ≠ w.heap.size; omega
  have km := Blk.new w3 67 #[.int .u8 kk, .int .i64 b, .int .i64 d, .int .i64 n, .string (bs l)]
  have c1 := km.cell 1
  have k1 := ((km.far (e0 0) (.int .u8 0)).far (e0 1) (.int .i64 0)).far (e0 2) (.slice none 0 0)
  have d1 := k1.cell 1
  simp at c1 d1
  have HX := Lib.hid r4.2.drew
  have HY := Lib.hid r4.1.drew.three.1
  clear r3 r4 hb3 HN HR e0 km k1 hlt
  go_wp2_with fail
  rename_i K hKK
  have HK : Hid (∀ (q0 q1 q5 q6 q7 q8 q9 q10 q11 q12 q13 q14 q15 q16 q17 q18 q19 q20 q21 q22 q23 q24 q25 q26 q27 q28 q29 q30 q31 q32 q33 q34 q35 q36 q37 q38 q39 q40 q41 q42 q43 q44 : Value) (W : World), W.cell? ⟨w.heap.size, 0, none⟩ = some (.int .u8 0) → W.cell? ⟨w.heap.size, 1, none⟩ = some (.int .i64 0) → W.cell? ⟨w.heap.size, 2, none⟩ = some (.slice none 0 0) → Below w.heap.size w W →
      K { tmps := #[q0, q1, .pointer (some ⟨w.heap.size, 0, none⟩), .int .i64 b, .int .i64 6, q5, q6, q7, q8, q9, q10, q11, q12, q13, q14, q15, q16, q17, q18, q19, q20, q21, q22, q23, q24, q25, q26, q27, q28, q29, q30, q31, q32, q33, q34, q35, q36, q37, q38, q39, q40, q41, q42, q43, q44], defers := [] } W) := by
    intro q0 q1 q5 q6 q7 q8 q9 q10 q11 q12 q13 q14 q15 q16 q17 q18 q19 q20 q21 q22 q23 q24 q25 q26 q27 q28 q29 q30 q31 q32 q33 q34 q35 q36 q37 q38 q39 q40 q41 q42 q43 q44 W x0 x1 x2 hb
    refine hKK _ _ ?_
    clear hKK HX HY y0 y1 y2 g0 g1 g2 c1 d1
    go_wp2_with fail
    refine bodyPost_ret (v := .tuple #[.agg #[.int .u8 0, .int .i64 0, .slice none 0 0], .int .i64 b, .int .i64 6]) ?_ rfl ⟨rfl, hb⟩
    simp [results, Tryz.results15, go_sem, x0, x1, x2]
  clear hKK
  go_region
  all_goals (
    refine HK.out _ _ _ _ _ _ _ _ _ _ _ _ _ _ _ _ _ _ _ _ _ _ _ _ _ _ _ _ _ _ _ _ _ _ _ _ _ _ _ _ _ _ _ ?_ ?_ ?_ ?_
    · exact HY.out.1
    · exact HY.out.2.1
    · exact HY.out.2.2
    · exact HX.out)

theorem rread_any (hTV : ∀ f, TV f) (s : ByteArray) (w : World) (hs : s.size ≤ 20000) : Calls Tryz.prog 15 #[.string s] w (RPost (readV s.data.toList) w) := by
  have hlen : s.data.toList.length = s.size := by simp
  unfold readV
  rw [hlen]
  by_cases h : 65536 < s.size
  · rw [if_pos h]
    omega
  · rw [if_neg h]
    have hP := rpart_any hTV s 0 (w.alloc zV) hs
    cases hz : partV s.data.toList 0 with
    | bad p e =>
      rw [hz] at hP
      exact rread_part s w (by omega) p e (partV_why hz) hP
    | ok v a m =>
      rw [hz] at hP
      have hz2 := hz
      have ha : a ≤ s.size := by
        have e := partV_in (l := s.data.toList) (a := 0) (Nat.zero_le _)
        rw [show ((0 : Nat) : Int) = 0 from rfl, hz2] at e
        have := ((read_ends _).1 _ _ _ _ _ _ _ _ (Nat.zero_le _) e.symm).2
        omega
      show Calls _ _ _ _ (RPost (if (nx s.data.toList a).2.2 ≠ 0 then _ else if (nx s.data.toList a).1.1 ≠ 10 then _ else _) w)
      obtain ⟨⟨⟨kk, b, d, n, l⟩, pl, er⟩, hx⟩ : ∃ x, nx s.data.toList a = x := ⟨_, rfl⟩
      rw [hx]
      by_cases her : er = 0
      · subst her
        rw [if_neg (by simp)]
        by_cases hk : kk = 10
        · subst hk
          rw [if_neg (by simp)]
          exact rread_okk s w (by omega) v a m ha b d n l pl hx hP
        · rw [if_pos hk]
          exact rread_over s w (by omega) v a m ha kk b d n l pl hk hx hP
      · rw [if_pos her]
        exact rread_next s w (by omega) v a m ha kk b d n l pl er her hx hP
end

/-! The walk of spoil: a value's items are written over. -/
section
open Go.RowKit

/-- Three cells that may be stored into. -/
def Room (w : World) (g o : Nat) : Prop := (∃ u0 u1 u2, w.cell? ⟨g, o, none⟩ = some u0 ∧ w.cell? ⟨g, o + 1, none⟩ = some u1 ∧ w.cell? ⟨g, o + 2, none⟩ = some u2)
theorem Room.set {w : World} {g o : Nat} (h : Room w g o) (p : Addr) (x : Value) : Room (w.setCell p x) g o := by
  obtain ⟨u0, u1, u2, h0, h1, h2⟩ := h
  obtain ⟨v0, k0⟩ := cell?_setCell_some (p := p) (x := x) h0
  obtain ⟨v1, k1⟩ := cell?_setCell_some (p := p) (x := x) h1
  obtain ⟨v2, k2⟩ := cell?_setCell_some (p := p) (x := x) h2
  exact ⟨v0, v1, v2, k0, k1, k2⟩
theorem Room.alloc {w : World} {g o : Nat} (h : Room w g o) (hg : g < w.heap.size) (x : Obj) : Room (w.alloc x) g o := by
  obtain ⟨u0, u1, u2, h0, h1, h2⟩ := h
  have e := Below.heap_alloc w x g hg
  exact ⟨u0, u1, u2, (World.cell?_of_block e).trans h0, (World.cell?_of_block e).trans h1, (World.cell?_of_block e).trans h2⟩
theorem frozen_set (w : World) (p q : Addr) (x : Value) : (w.setCell p x).frozen? q = w.frozen? q := by
  simp

set_option maxRecDepth 100000 in
set_option maxHeartbeats 1000000 in
theorem spoil_any (x : V) (A : Option Addr) (c : Nat) (w : World) (S : Nat → Prop) (hS : ∀ k, S k → k < w.heap.size) (hll : x.l.length ≤ 1000000) (hV : Vsp w S A x.l) :
    Calls Tryz.prog 20 #[.agg #[.int .u8 x.k, .int .i64 x.n, .slice A x.l.length c]] w fun e w' => e = .returned (.tuple #[]) ∧ ∃ row, w.grownBy w' row ∧ ∀ g, row = some g → S g := by
  obtain ⟨k, n, l⟩ := x
  change l.length ≤ 1000000 at hll
  change Vsp w S A l at hV
  show Calls Tryz.prog 20 #[.agg #[.int .u8 k, .int .i64 n, .slice A l.length c]] w _
  have hk := Blk.new w 24 #[.int .u8 k, .int .i64 n, .slice A l.length c]
  cases hV with
  | emp A =>
    have HX := Lib.hid (only_alloc (only_refl w none) (.cells #[.int .u8 k, .int .i64 n, .slice A 0 c] 24))
    have HK := Lib.hid hk
    change Hid (Blk (w.alloc (.cells #[.int .u8 k, .int .i64 n, .slice A 0 c] 24)) w.heap.size 24 #[.int .u8 k, .int .i64 n, .slice A 0 c]) at HK
    clear hk
    show Calls Tryz.prog 20 #[.agg #[.int .u8 k, .int .i64 n, .slice A 0 c]] w _
    go_enter Tryz.func20, Tryz.ntmps20
    go_wp2_with fail
    go_loopw [2] (fun i wr => i = .int .i64 0 ∧ Blk wr w.heap.size 24 #[.int .u8 k, .int .i64 n, .slice A 0 c] ∧ w.grownBy wr none) (fun _ _ => 0)
    case atStart => exact ⟨rfl, HK.out, HX.out⟩
    case round =>
      obtain ⟨rfl, hkr, hgr⟩ := hrel
      obtain ⟨⟨a0, a1, a2⟩, _⟩ := hkr.three
      have HG := Lib.hid hgr
      clear hkr hgr HK HX
      go_wp2_with fail
      go_end0
      exact ⟨rfl, none, HG.out, fun g q => by cases q⟩
  | row g o l AA cc hg hc hz hs =>
    have hgs := hS g hg
    have hroom : ∀ i, i < l.length → Room w g (o + i * 3) := fun i hi => by
      obtain ⟨h1, h2, h3⟩ := hc i _ (List.getElem?_eq_getElem hi)
      exact ⟨_, _, _, h1, h2, h3⟩
    have HK := Lib.hid (And.intro hk (And.intro (only_alloc (only_refl w (some g)) (.cells #[.int .u8 k, .int .i64 n, .slice (some ⟨g, o, none⟩) l.length c] 24)) (And.intro hroom hz)))
    have HG := Lib.hid hg
    clear hk hroom hz hc hs hg hS
    go_enter Tryz.func20, Tryz.ntmps20
    go_wp2_with fail
    go_loopw [2] (fun i wr => ∃ j : Nat, j ≤ l.length ∧ i = .int .i64 j ∧ Blk wr w.heap.size 24 #[.int .u8 k, .int .i64 n, .slice (some ⟨g, o, none⟩) l.length c] ∧ w.grownBy wr (some g) ∧ Hid (∀ i, i < l.length → Room wr g (o + i * 3)) ∧ Hid (∀ j : Nat, wr.frozen? ⟨g, j, none⟩ = false)) (fun i _ => l.length - (intOf i).toNat)
    case atStart => exact ⟨0, Nat.zero_le _, rfl, HK.out.1, HK.out.2.1, fun i hi => (HK.out.2.2.1 i hi).alloc hgs _, fun j => (frozen_of_block (p := ⟨g, j, none⟩) (Below.heap_alloc _ _ _ hgs)).trans (HK.out.2.2.2 j)⟩
    case round =>
      obtain ⟨j, hj, rfl, hkr, hgr, HRm, HZ⟩ := hrel
      obtain ⟨⟨a0, a1, a2⟩, _⟩ := hkr.three
      by_cases hlt : j < l.length
      · obtain ⟨u0, u1, u2, h0, h1, h2⟩ := HRm.out j hlt
        have f0 := HZ.out (o + j * 3)
        have f1 := HZ.out (o + j * 3 + 1)
        have f2 := HZ.out (o + j * 3 + 2)
        have j0 : (0 : Int) ≤ (j : Int) := by omega
        have j1 : (j : Int) < (l.length : Int) := by omega
        have HKR := Lib.hid (And.intro hkr hgr)
        clear hkr hgr HK
        go_wp2_with fail
        have hne : w.heap.size ≠ g := by omega
        go_roundw
        case rel =>
          refine ⟨j + 1, by omega, by go_num, ?_, ?_, ?_, ?_⟩
          · exact ((HKR.out.1.far (p := ⟨g, _, none⟩) hne _).far (p := ⟨g, _, none⟩) hne _).far (p := ⟨g, _, none⟩) hne _
          · exact only_setCell (only_setCell (only_setCell HKR.out.2 (p := ⟨g, _, none⟩) (.inl rfl) _) (p := ⟨g, _, none⟩) (.inl rfl) _) (p := ⟨g, _, none⟩) (.inl rfl) _
          · exact fun i hi => (((HRm.out i hi).set _ _).set _ _).set _ _
          · intro q
            rw [frozen_set, frozen_set, frozen_set]
            exact HZ.out q
        case measure => simp [intOf]; omega
      · obtain rfl : j = l.length := by omega
        have HGR := Lib.hid hgr
        clear hkr hgr HK
        go_wp2_with fail
        go_end0
        exact ⟨rfl, some g, HGR.out, fun q h => by injection h with h; rw [← h]; exact HG.out⟩
end

/-! The examples of the statements, in plain Lean. -/
section
open Go.RowKit

def exV : V := .mk 3 0 [.mk 1 1 [], .mk 4 0 [.mk 2 1 [], .mk 1 (-2) []]]
theorem ex_show : showV exV = ([60, 49, 32, 91, 116, 114, 117, 101, 32, 45, 50, 93, 62], 0) := by kernel_rfl
theorem ex_read : ∃ m, readV [60, 49, 32, 91, 116, 114, 117, 101, 32, 45, 50, 93, 32, 62] = .ok exV 0 m := ⟨5, by kernel_rfl⟩
theorem ex_part : ∃ m, partV [40, 101, 113, 32, 53, 41] 3 = .ok (.mk 1 5 []) 5 m := ⟨1, by kernel_rfl⟩
theorem ex_r1 : readV [60, 49] = .bad 2 4 := by kernel_rfl
theorem ex_r2 : readV [60, 49, 93] = .bad 2 3 := by kernel_rfl
theorem ex_r3 : readV [116, 114, 117, 116, 104] = .bad 0 3 := by kernel_rfl
theorem ex_r4 : readV [49, 32, 50] = .bad 2 6 := by kernel_rfl
end

/-! strings.Builder's copyCheck and WriteString (the shelf's walks, turned to this program: its lay fails here). -/
section
open Go.RowKit

set_option maxHeartbeats 1000000 in
set_option maxRecDepth 100000 in
theorem check_used (b : Nat) (w : World) (h0 : w.cell? ⟨b, 0, none⟩ = some (.pointer (some ⟨b, 0, none⟩))) :
    Calls Tryz.prog 68 #[.pointer (some ⟨b, 0, none⟩)] w fun e w' => e = .returned (.tuple #[]) ∧ w' = w := by
  obtain ⟨j, hj, _⟩ := Option.map_eq_some_iff.1 (Tryz.Builder_Extra_169).sizeBuilder
  go_enter Tryz.func68, Tryz.ntmps68
  go_wp2
  rw [Lib.run_neq_ptr_same w _ Tryz.underlying60 hj]
  go_wp2
  go_end0
  exact ⟨rfl, rfl⟩

set_option maxHeartbeats 1000000 in
set_option maxRecDepth 100000 in
theorem check_fresh (b : Nat) (w : World) (h0 : w.cell? ⟨b, 0, none⟩ = some (.pointer none)) (hsh : w.shape? b = some (62, 2)) (hfz : w.frozen? ⟨b, 0, none⟩ = false) :
    Calls Tryz.prog 68 #[.pointer (some ⟨b, 0, none⟩)] w fun e w' => e = .returned (.tuple #[]) ∧ w' = w.setCell ⟨b, 0, none⟩ (.pointer (some ⟨b, 0, none⟩)) := by
  obtain ⟨j, hj, hjs⟩ := Option.map_eq_some_iff.1 (Tryz.Builder_Extra_169).sizeBuilder
  have U104 : Tryz.prog.underlying 146 = some .unsafePointer := by kernel_rfl
  go_enter Tryz.func68, Tryz.ntmps68
  go_wp2
  rw [Lib.run_to_unsafe w ⟨b, 0, none⟩ Tryz.underlying60 U104 hj (by rw [hjs]; decide) hsh (Nat.zero_lt_succ 1)]
  simp only [Result.andThen]
  rw [Oper.upon_value]
  go_wp2
  rw [run_callFunc_extern Tryz.func94 (by kernel_rfl) (by kernel_rfl) (by kernel_rfl) (e := Extern.AbiNoEscape.same) (by kernel_rfl)]
  rw [Lib.run_noEscape]
  simp only [Result.andThen]
  rw [Oper.upon_value]
  go_wp2
  rw [Lib.run_from_unsafe w ⟨b, 0, none⟩ U104 Tryz.underlying60 hj hsh (Tryz.Builder_Extra_169).liesBuilder]
  simp only [Result.andThen]
  rw [Oper.upon_value]
  go_wp2
  go_end0
  exact ⟨rfl, rfl⟩

theorem check_any (B b : Nat) (xs : List Value) (w : World) (h : Lib.IsBuilderF 62 5 B b xs w) :
    Calls Tryz.prog 68 #[.pointer (some ⟨b, 0, none⟩)] w fun e w' => e = .returned (.tuple #[]) ∧ (Lib.BuilderAtF 62 5 B b (.pointer (some ⟨b, 0, none⟩)) xs w' ∧ Below B w w') := by
  rcases h with h | h
  · refine (check_fresh b w h.cell0 h.shape h.frozen0).mono ?_
    rintro e w' ⟨rfl, rfl⟩
    exact ⟨rfl, h.used _, (Below.refl B w).setCell (p := ⟨b, 0, none⟩) h.1 _⟩
  · refine (check_used b w h.cell0).mono ?_
    rintro e w' ⟨rfl, rfl⟩
    exact ⟨rfl, h, Below.refl B _⟩

set_option maxHeartbeats 2000000 in
set_option maxRecDepth 100000 in
theorem write_any (B b : Nat) (xs : List Value) (s : ByteArray) (w : World) (h : Lib.IsBuilderF 62 5 B b xs w) (hlen : xs.length + s.size ≤ 140737488355328) (hBw : B ≤ w.heap.size) :
    Calls Tryz.prog 43 #[.pointer (some ⟨b, 0, none⟩), .string s] w fun e w' => e = .returned (.tuple #[.int .i64 s.size, .nilIface]) ∧ (Lib.BuilderAtF 62 5 B b (.pointer (some ⟨b, 0, none⟩)) (xs ++ Lib.strCells s) w' ∧ Below B w w') := by
  obtain ⟨i0, hi, hz0, hz1, hz2⟩ := info_parts (Tryz.Builder_Extra_169).infoByte
  go_enter Tryz.func43, Tryz.ntmps43
  go_wp2_with fail
  refine (check_any B b xs _ h).mono ?_
  rintro e w1 ⟨rfl, h1, hb1⟩
  obtain ⟨hB, v, hbk, hown, hne⟩ := h1
  have c0 : w1.cell? ⟨b, 0, none⟩ = some (.pointer (some ⟨b, 0, none⟩)) := by rw [Lib.cell_of_heap hbk]; rfl
  have c1 : w1.cell? ⟨b, 1, none⟩ = some v := by rw [Lib.cell_of_heap hbk]; rfl
  go_wp2_with (at_builtin; refine Lib.wpList_append_own_stringF _ rfl _ _ 40 9 rfl B 5 i0 Tryz.underlying40 Tryz.underlying9 hi hz0 hz1 hz2 _ _ _ rfl hown s rfl ?c3 ?c4 ?c5 ?_)
  case c3 => unfold maxLen; omega
  case c4 => omega
  case c5 => have := hb1.size; omega
  intro v' w2 hown' hgrow _
  have hlt : b < w1.heap.size := by
    rcases Nat.lt_or_ge b w1.heap.size with h' | h'
    · exact h'
    · simp [Array.getElem?_eq_none h'] at hbk
  have hb2 : w2.heap[b]? = some (.cells #[.pointer (some ⟨b, 0, none⟩), v] 62 (0, 0)) := by
    rw [hgrow.block b hlt (fun e => hne e.symm)]
    exact hbk
  have d0 : w2.cell? ⟨b, 0, none⟩ = some (.pointer (some ⟨b, 0, none⟩)) := by rw [Lib.cell_of_heap hb2]; rfl
  have d1 : w2.cell? ⟨b, 1, none⟩ = some v := by rw [Lib.cell_of_heap hb2]; rfl
  have f1 : w2.frozen? ⟨b, 1, none⟩ = false := Lib.frozen_of_heap hb2 1
  obtain ⟨ao, n', cap, rfl⟩ : ∃ ao n' cap, v' = .slice ao n' cap := by
    rcases hown'.2 with ⟨hv, _⟩ | ⟨g, cap, cur, fz, hv, _⟩
    · exact ⟨_, _, _, hv⟩
    · exact ⟨_, _, _, hv⟩
  go_wp2
  go_ret2
  refine ⟨rfl, ?_, ?_⟩
  · exact Lib.BuilderAtF.put (T := 62) (e := 5) hB hb2 (bs' := xs ++ Lib.strCells s) (by simpa [Lib.strCells_length] using hown') (by decide)
  · exact (hb1.grown hgrow (by have := hb1.size; omega) (fun k hk => (hown.lt k hk).1)).setCell (p := ⟨b, 1, none⟩) hB _
end
end Go.Proofs.YtbhekkkijomglaaGreatDoor
