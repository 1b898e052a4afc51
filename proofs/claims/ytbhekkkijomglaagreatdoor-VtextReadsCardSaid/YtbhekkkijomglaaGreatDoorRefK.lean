/- The walk of the reference's Read (whole numbers). -/
import Derived.Test.YtbhekkkijomglaaGreatDoorRefI
namespace Go.Proofs.YtbhekkkijomglaaGreatDoor
open Go.RowKit

/-- The error, the sign, the magnitude. -/
def read5 (l : List UInt8) : Nat × Bool × Nat :=
  if l.head? = some 45 then
    (if (read4 (l.drop 1)).1 ≠ 0 then ((read4 (l.drop 1)).1, false, 0) else if (read4 (l.drop 1)).2 = 0 then (3, false, 0) else (0, true, (read4 (l.drop 1)).2))
  else (if (read4 l).1 ≠ 0 then ((read4 l).1, false, 0) else (0, false, (read4 l).2))
def Read5 (w : World) (x : Nat × Bool × Nat) (e : Ending) (w' : World) : Prop :=
  ∃ v, e = .returned (.tuple #[v, .int .i64 x.1]) ∧ IntVal w.heap.size w' x.2.1 x.2.2 v ∧ Below w.heap.size w w'
theorem read4_any (s : ByteArray) (w : World) (hs : s.size ≤ 20000) : Calls Tryz.prog 103 #[.string s] w (Read4 w (read4 s.data.toList)) := by
  by_cases h : (read4 s.data.toList).1 = 0
  · exact read4_good s w hs h
  · exact read4_bad s w hs h
theorem read4_err (l : List UInt8) : (read4 l).1 ≤ 4 := by
  unfold read4
  split
  · exact Nat.le_refl _
  · split
    · exact (by decide : 3 ≤ 4)
    · split
      · exact (by decide : 3 ≤ 4)
      · exact Nat.zero_le _
theorem dv_dgs4 (v : Nat) : dv (65536 ^ 4) (dgs (65536 ^ 4) v) = v := dv_dgs (by decide) v
theorem dgs_len (l : List UInt8) (hl : l.length ≤ 20000) : (dgs (65536 ^ 4) (read4 l).2).length ≤ 100000 := by
  have hb : ∀ v k : Nat, v < (65536 ^ 4) ^ k → (dgs (65536 ^ 4) v).length ≤ k := by
    intro v k
    induction k generalizing v with
    | zero =>
      intro h
      have : v = 0 := by rw [Nat.pow_zero] at h; omega
      subst this
      rw [dgs_zero]; simp
    | succ k ih =>
      intro h
      rcases Nat.eq_zero_or_pos v with h0 | h0
      · subst h0; rw [dgs_zero]; simp
      · rw [dgs_pos (by decide) h0, List.length_cons]
        have := ih (v / 65536 ^ 4) (by rw [Nat.div_lt_iff_lt_mul (by decide), ← Nat.pow_succ]; exact h)
        omega
  have hv : ∀ (l : List UInt8), l.all digB = true → decVal 0 l < (65536 ^ 4) ^ l.length := by
    intro l h
    have hg : ∀ (l : List UInt8) (a : Nat), l.all digB = true → decVal a l + 1 ≤ (a + 1) * 10 ^ l.length := by
      intro l
      induction l with
      | nil => intro a _; rw [decVal_nil]; simp
      | cons c r ih =>
        intro a h
        simp only [List.all_cons, Bool.and_eq_true] at h
        have hc := (dig_iff c).1 h.1
        have := ih (a * 10 + (c.toNat - 48)) h.2
        rw [decVal_cons, List.length_cons, Nat.pow_succ, Nat.mul_comm (10 ^ r.length) 10, ← Nat.mul_assoc]
        refine Nat.le_trans this (Nat.mul_le_mul_right _ ?_)
        omega
    have h1 := hg l 0 h
    rw [Nat.zero_add, Nat.one_mul] at h1
    have h2 : 10 ^ l.length ≤ (65536 ^ 4) ^ l.length := Nat.pow_le_pow_left (by decide) _
    omega
  unfold read4
  split
  · rw [dgs_zero]; simp
  · split
    · rw [dgs_zero]; simp
    · rename_i h1
      split
      · rw [dgs_zero]; simp
      · refine Nat.le_trans (hb _ l.length (hv l (by simpa using h1))) (by omega)

set_option maxRecDepth 100000 in
set_option maxHeartbeats 1000000 in
theorem read5_any (s : ByteArray) (w : World) (hs : s.size ≤ 20000) :
    Calls Tryz.prog 78 #[.string s] w (Read5 w (read5 s.data.toList)) := by
  have hl : s.data.toList.length = s.size := by simp
  by_cases hneg : s.data.toList.head? = some 45
  · have hpos : 0 < s.size := by
      rcases Nat.eq_zero_or_pos s.size with h | h
      · have hnil : s.data.toList = [] := List.length_eq_zero_iff.1 (by rw [hl]; exact h)
        rw [hnil] at hneg; cases hneg
      · exact h
    have h45 : ((s[0].toNat : Int) == 45) = true := by
      rw [List.head?_eq_getElem?, data_get s 0 hpos] at hneg
      rw [Option.some.inj hneg]; rfl
    have hd : (s.extract 1 s.size).data.toList = s.data.toList.drop 1 := by
      rw [bs_extract, bs_list, List.take_of_length_le (by rw [List.length_drop, hl]; omega)]
    have hsz : (s.extract 1 s.size).size ≤ 20000 := by rw [ByteArray.size_extract]; omega
    have R4 := fun W => read4_any (s.extract 1 s.size) W hsz
    rw [hd] at R4
    have hln := dgs_len (s.data.toList.drop 1) (by rw [List.length_drop, hl]; omega)
    have e4 := read4_err (s.data.toList.drop 1)
    have hr : read5 s.data.toList = (if (read4 (s.data.toList.drop 1)).1 ≠ 0 then ((read4 (s.data.toList.drop 1)).1, false, 0) else if (read4 (s.data.toList.drop 1)).2 = 0 then (3, false, 0) else (0, true, (read4 (s.data.toList.drop 1)).2)) := by
      rw [read5, if_pos hneg]
    rw [hr]
    have hne : s.toList.isEmpty = false := by rw [isEmpty_bytes, isEmpty_size]; exact decide_eq_false (by omega)
    clear hr hneg hd hsz hl
    generalize read4 (s.data.toList.drop 1) = x at *
    obtain ⟨er, v⟩ := x
    have H4 := Lib.hid R4; clear R4
    simp only at hln e4
    have s1 : (1 : Int) ≤ (s.size : Int) := by omega
    by_cases her : er = 0
    · subst her
      rw [if_neg (by simp)]
      by_cases hv : v = 0
      · subst hv
        rw [if_pos rfl]
        have hz := dgs_zero (65536 ^ 4)
        unfold Read4 at H4
        simp only [hz, List.length_nil] at H4
        clear hz hln e4
        go_enter Tryz.func78, Tryz.ntmps78
        go_wp2_with fail
        refine (H4.out _).mono ?_
        rintro e w1 ⟨A, c, rfl, hA, hb⟩
        have hbw : Below w.heap.size w w1 := ((Below.refl w.heap.size w).alloc (Nat.le_refl _) (.cells #[.bool false, .slice none 0 0] 104)).trans (hb.mono (by simp))
        have hblk : Blk w1 w.heap.size 104 #[.bool false, .slice none 0 0] := (Blk.new w _ _).below hb (by simp)
        have hz1 : w.heap.size + 1 ≤ w1.heap.size := by have := hb.size; simpa using this
        have c0 := hblk.cell 0
        have c1 := hblk.cell 1
        have f0 := hblk.frozen 0
        have f1 := hblk.frozen 1
        change w1.cell? _ = some (.bool false) at c0
        change w1.cell? _ = some (.slice none 0 0) at c1
        have k1 : (w1.setCell ⟨w.heap.size, 0, none⟩ (.bool false)).cell? ⟨w.heap.size, 0, none⟩ = some (.bool false) := (hblk.set_ 0 _).cell 0
        have k2 : ((w1.setCell ⟨w.heap.size, 0, none⟩ (.bool false)).setCell ⟨w.heap.size, 1, none⟩ (.slice none 0 0)).cell? ⟨w.heap.size, 1, none⟩ = some (.slice none 0 0) := ((hblk.set_ 0 _).set_ 1 _).cell 1
        clear hb
        go_wp2_with fail
        refine bodyPost_ret (v := .tuple #[.agg #[.bool false, .slice none 0 0], .int .i64 3]) (by simp [results, Tryz.results78, go_sem, hz1, k1, k2]) rfl ⟨_, rfl, IntVal.zero _ _, (hbw.setCell (p := ⟨w.heap.size, 0, none⟩) (Nat.le_refl _) _).setCell (p := ⟨w.heap.size, 1, none⟩) (Nat.le_refl _) _⟩
      · rw [if_neg hv]
        have MM := fun W (B : Option Addr) d h => make_any true (dgs (65536 ^ 4) v) B _ d W rfl hln h (dgs_lt (by decide) v)
        rw [dv_dgs4, decide_eq_true (by omega : 0 < v), Bool.true_and] at MM
        have MK := Lib.hid MM; clear MM
        have hp : 0 < (dgs (65536 ^ 4) v).length := by
          rcases Nat.eq_zero_or_pos (dgs (65536 ^ 4) v).length with h | h
          · exact absurd ((dgs_nil (by decide) v).1 (List.length_eq_zero_iff.1 h)) hv
          · exact h
        have hp1 : (((dgs (65536 ^ 4) v).length : Int) == 0) = false := beq_eq_false_iff_ne.2 (by omega)
        clear e4
        go_enter Tryz.func78, Tryz.ntmps78
        go_wp2_with fail
        refine (H4.out _).mono ?_
        rintro e w1 ⟨A, c, rfl, hA, hb⟩
        have hbw : Below w.heap.size w w1 := ((Below.refl w.heap.size w).alloc (Nat.le_refl _) (.cells #[.bool false, .slice none 0 0] 104)).trans (hb.mono (by simp))
        have hblk : Blk w1 w.heap.size 104 #[.bool false, .slice none 0 0] := (Blk.new w _ _).below hb (by simp)
        have hz1 : w.heap.size + 1 ≤ w1.heap.size := by have := hb.size; simpa using this
        have c0 := hblk.cell 0
        have c1 := hblk.cell 1
        have f0 := hblk.frozen 0
        have f1 := hblk.frozen 1
        change w1.cell? _ = some (.bool false) at c0
        change w1.cell? _ = some (.slice none 0 0) at c1
        clear hb
        go_wp2_with fail
        refine (MK.out _ A c (hA.below (Below.refl _ _))).mono ?_
        rintro e w2 ⟨x, rfl, ⟨B, d, rfl, hB, hge⟩, hb2⟩
        have hbw2 := hbw.trans (hb2.mono hbw.size)
        have hblk2 := hblk.below hb2 hblk.lt
        have d0 := hblk2.cell 0
        have d1 := hblk2.cell 1
        have g0 := hblk2.frozen 0
        have g1 := hblk2.frozen 1
        change w2.cell? _ = some (.bool false) at d0
        change w2.cell? _ = some (.slice none 0 0) at d1
        have hz2 : w.heap.size + 1 ≤ w2.heap.size := Nat.le_trans hz1 hb2.size
        have HGE : Hid (∀ a, B = some a → a.block ≠ w.heap.size) := fun a ha e => by have := hge a ha; omega
        have HGW : Hid (∀ a, B = some a → w.heap.size ≤ a.block) := fun a ha => by have := hge a ha; omega
        have k1 : (w2.setCell ⟨w.heap.size, 0, none⟩ (.bool true)).cell? ⟨w.heap.size, 0, none⟩ = some (.bool true) := (hblk2.set_ 0 _).cell 0
        have k2 : ((w2.setCell ⟨w.heap.size, 0, none⟩ (.bool true)).setCell ⟨w.heap.size, 1, none⟩ (.slice B (dgs (65536 ^ 4) v).length d)).cell? ⟨w.heap.size, 1, none⟩ = some (.slice B (dgs (65536 ^ 4) v).length d) := ((hblk2.set_ 0 _).set_ 1 _).cell 1
        clear hge hb2
        go_wp2_with fail
        refine bodyPost_ret (v := .tuple #[.agg #[.bool true, .slice B (dgs (65536 ^ 4) v).length d], .int .i64 0]) (by simp [results, Tryz.results78, go_sem, hz2, k1, k2]) rfl ⟨_, rfl, ⟨B, d, rfl, (hB.set_ HGE.out _).set_ HGE.out _, HGW.out⟩, (hbw2.setCell (p := ⟨w.heap.size, 0, none⟩) (Nat.le_refl _) _).setCell (p := ⟨w.heap.size, 1, none⟩) (Nat.le_refl _) _⟩
    · rw [if_pos (by simpa using her)]
      have he1 : ((er : Int) != 0) = true := bne_iff_ne.2 (by omega)
      go_enter Tryz.func78, Tryz.ntmps78
      go_wp2_with fail
      refine (H4.out _).mono ?_
      rintro e w1 ⟨A, c, rfl, hA, hb⟩
      have hbw : Below w.heap.size w w1 := ((Below.refl w.heap.size w).alloc (Nat.le_refl _) (.cells #[.bool false, .slice none 0 0] 104)).trans (hb.mono (by simp))
      have hblk : Blk w1 w.heap.size 104 #[.bool false, .slice none 0 0] := (Blk.new w _ _).below hb (by simp)
      have hz1 : w.heap.size + 1 ≤ w1.heap.size := by have := hb.size; simpa using this
      have c0 := hblk.cell 0
      have c1 := hblk.cell 1
      have f0 := hblk.frozen 0
      have f1 := hblk.frozen 1
      change w1.cell? _ = some (.bool false) at c0
      change w1.cell? _ = some (.slice none 0 0) at c1
      have k1 : (w1.setCell ⟨w.heap.size, 0, none⟩ (.bool false)).cell? ⟨w.heap.size, 0, none⟩ = some (.bool false) := (hblk.set_ 0 _).cell 0
      have k2 : ((w1.setCell ⟨w.heap.size, 0, none⟩ (.bool false)).setCell ⟨w.heap.size, 1, none⟩ (.slice none 0 0)).cell? ⟨w.heap.size, 1, none⟩ = some (.slice none 0 0) := ((hblk.set_ 0 _).set_ 1 _).cell 1
      clear hb
      go_wp2_with fail
      refine bodyPost_ret (v := .tuple #[.agg #[.bool false, .slice none 0 0], .int .i64 er]) (by simp [results, Tryz.results78, go_sem, hz1, k1, k2]) rfl ⟨_, rfl, IntVal.zero _ _, (hbw.setCell (p := ⟨w.heap.size, 0, none⟩) (Nat.le_refl _) _).setCell (p := ⟨w.heap.size, 1, none⟩) (Nat.le_refl _) _⟩
  · have R4 := fun W => read4_any s W hs
    have hln := dgs_len s.data.toList (by omega)
    have e4 := read4_err s.data.toList
    have hr : read5 s.data.toList = (if (read4 s.data.toList).1 ≠ 0 then ((read4 s.data.toList).1, false, 0) else (0, false, (read4 s.data.toList).2)) := by rw [read5, if_neg hneg]
    rw [hr]
    have hlead : s.size = 0 ∨ ∃ h : 0 < s.size, ((s[0].toNat : Int) == 45) = false := by
      rcases Nat.eq_zero_or_pos s.size with h | h
      · exact .inl h
      · refine .inr ⟨h, beq_eq_false_iff_ne.2 fun e => hneg ?_⟩
        rw [List.head?_eq_getElem?, data_get s 0 h]
        rw [UInt8.toNat_inj.1 (show s[0].toNat = (45 : UInt8).toNat by have : (45 : UInt8).toNat = 45 := rfl; omega)]
    clear hr hneg hl
    generalize read4 s.data.toList = x at *
    obtain ⟨er, v⟩ := x
    have H4 := Lib.hid R4; clear R4
    simp only at hln e4
    have MM := fun W (B : Option Addr) d h => make_any false (dgs (65536 ^ 4) v) B _ d W rfl hln h (dgs_lt (by decide) v)
    rw [dv_dgs4, Bool.false_and] at MM
    have MK := Lib.hid MM; clear MM
    rcases hlead with h0 | ⟨h0, h45⟩
    · have hne : s.toList.isEmpty = true := by rw [isEmpty_bytes, isEmpty_size]; exact decide_eq_true h0
      clear h0
      by_cases her : er = 0
      · subst her
        rw [if_neg (by simp)]
        clear e4
        go_enter Tryz.func78, Tryz.ntmps78
        go_wp2_with fail
        refine (H4.out _).mono ?_
        rintro e w1 ⟨A, c, rfl, hA, hb⟩
        have hbw : Below w.heap.size w w1 := ((Below.refl w.heap.size w).alloc (Nat.le_refl _) (.cells #[.bool false, .slice none 0 0] 104)).trans (hb.mono (by simp))
        have hblk : Blk w1 w.heap.size 104 #[.bool false, .slice none 0 0] := (Blk.new w _ _).below hb (by simp)
        have hz1 : w.heap.size + 1 ≤ w1.heap.size := by have := hb.size; simpa using this
        have c0 := hblk.cell 0
        have c1 := hblk.cell 1
        have f0 := hblk.frozen 0
        have f1 := hblk.frozen 1
        change w1.cell? _ = some (.bool false) at c0
        change w1.cell? _ = some (.slice none 0 0) at c1
        clear hb
        go_wp2_with fail
        refine (MK.out _ A c (hA.below (Below.refl _ _))).mono ?_
        rintro e w2 ⟨x, rfl, ⟨B, d, rfl, hB, hge⟩, hb2⟩
        have hbw2 := hbw.trans (hb2.mono hbw.size)
        have hblk2 := hblk.below hb2 hblk.lt
        have d0 := hblk2.cell 0
        have d1 := hblk2.cell 1
        have g0 := hblk2.frozen 0
        have g1 := hblk2.frozen 1
        change w2.cell? _ = some (.bool false) at d0
        change w2.cell? _ = some (.slice none 0 0) at d1
        have hz2 : w.heap.size + 1 ≤ w2.heap.size := Nat.le_trans hz1 hb2.size
        have HGE : Hid (∀ a, B = some a → a.block ≠ w.heap.size) := fun a ha e => by have := hge a ha; omega
        have HGW : Hid (∀ a, B = some a → w.heap.size ≤ a.block) := fun a ha => by have := hge a ha; omega
        have k1 : (w2.setCell ⟨w.heap.size, 0, none⟩ (.bool false)).cell? ⟨w.heap.size, 0, none⟩ = some (.bool false) := (hblk2.set_ 0 _).cell 0
        have k2 : ((w2.setCell ⟨w.heap.size, 0, none⟩ (.bool false)).setCell ⟨w.heap.size, 1, none⟩ (.slice B (dgs (65536 ^ 4) v).length d)).cell? ⟨w.heap.size, 1, none⟩ = some (.slice B (dgs (65536 ^ 4) v).length d) := ((hblk2.set_ 0 _).set_ 1 _).cell 1
        clear hge hb2
        go_wp2_with fail
        refine bodyPost_ret (v := .tuple #[.agg #[.bool false, .slice B (dgs (65536 ^ 4) v).length d], .int .i64 0]) (by simp [results, Tryz.results78, go_sem, hz2, k1, k2]) rfl ⟨_, rfl, ⟨B, d, rfl, (hB.set_ HGE.out _).set_ HGE.out _, HGW.out⟩, (hbw2.setCell (p := ⟨w.heap.size, 0, none⟩) (Nat.le_refl _) _).setCell (p := ⟨w.heap.size, 1, none⟩) (Nat.le_refl _) _⟩
      · rw [if_pos (by simpa using her)]
        have he1 : ((er : Int) != 0) = true := bne_iff_ne.2 (by omega)
        go_enter Tryz.func78, Tryz.ntmps78
        go_wp2_with fail
        refine (H4.out _).mono ?_
        rintro e w1 ⟨A, c, rfl, hA, hb⟩
        have hbw : Below w.heap.size w w1 := ((Below.refl w.heap.size w).alloc (Nat.le_refl _) (.cells #[.bool false, .slice none 0 0] 104)).trans (hb.mono (by simp))
        have hblk : Blk w1 w.heap.size 104 #[.bool false, .slice none 0 0] := (Blk.new w _ _).below hb (by simp)
        have hz1 : w.heap.size + 1 ≤ w1.heap.size := by have := hb.size; simpa using this
        have c0 := hblk.cell 0
        have c1 := hblk.cell 1
        have f0 := hblk.frozen 0
        have f1 := hblk.frozen 1
        change w1.cell? _ = some (.bool false) at c0
        change w1.cell? _ = some (.slice none 0 0) at c1
        have k1 : (w1.setCell ⟨w.heap.size, 0, none⟩ (.bool false)).cell? ⟨w.heap.size, 0, none⟩ = some (.bool false) := (hblk.set_ 0 _).cell 0
        have k2 : ((w1.setCell ⟨w.heap.size, 0, none⟩ (.bool false)).setCell ⟨w.heap.size, 1, none⟩ (.slice none 0 0)).cell? ⟨w.heap.size, 1, none⟩ = some (.slice none 0 0) := ((hblk.set_ 0 _).set_ 1 _).cell 1
        clear hb
        go_wp2_with fail
        refine bodyPost_ret (v := .tuple #[.agg #[.bool false, .slice none 0 0], .int .i64 er]) (by simp [results, Tryz.results78, go_sem, hz1, k1, k2]) rfl ⟨_, rfl, IntVal.zero _ _, (hbw.setCell (p := ⟨w.heap.size, 0, none⟩) (Nat.le_refl _) _).setCell (p := ⟨w.heap.size, 1, none⟩) (Nat.le_refl _) _⟩
    · have hne : s.toList.isEmpty = false := by rw [isEmpty_bytes, isEmpty_size]; exact decide_eq_false (by omega)
      by_cases her : er = 0
      · subst her
        rw [if_neg (by simp)]
        clear e4
        go_enter Tryz.func78, Tryz.ntmps78
        go_wp2_with fail
        refine (H4.out _).mono ?_
        rintro e w1 ⟨A, c, rfl, hA, hb⟩
        have hbw : Below w.heap.size w w1 := ((Below.refl w.heap.size w).alloc (Nat.le_refl _) (.cells #[.bool false, .slice none 0 0] 104)).trans (hb.mono (by simp))
        have hblk : Blk w1 w.heap.size 104 #[.bool false, .slice none 0 0] := (Blk.new w _ _).below hb (by simp)
        have hz1 : w.heap.size + 1 ≤ w1.heap.size := by have := hb.size; simpa using this
        have c0 := hblk.cell 0
        have c1 := hblk.cell 1
        have f0 := hblk.frozen 0
        have f1 := hblk.frozen 1
        change w1.cell? _ = some (.bool false) at c0
        change w1.cell? _ = some (.slice none 0 0) at c1
        clear hb
        go_wp2_with fail
        refine (MK.out _ A c (hA.below (Below.refl _ _))).mono ?_
        rintro e w2 ⟨x, rfl, ⟨B, d, rfl, hB, hge⟩, hb2⟩
        have hbw2 := hbw.trans (hb2.mono hbw.size)
        have hblk2 := hblk.below hb2 hblk.lt
        have d0 := hblk2.cell 0
        have d1 := hblk2.cell 1
        have g0 := hblk2.frozen 0
        have g1 := hblk2.frozen 1
        change w2.cell? _ = some (.bool false) at d0
        change w2.cell? _ = some (.slice none 0 0) at d1
        have hz2 : w.heap.size + 1 ≤ w2.heap.size := Nat.le_trans hz1 hb2.size
        have HGE : Hid (∀ a, B = some a → a.block ≠ w.heap.size) := fun a ha e => by have := hge a ha; omega
        have HGW : Hid (∀ a, B = some a → w.heap.size ≤ a.block) := fun a ha => by have := hge a ha; omega
        have k1 : (w2.setCell ⟨w.heap.size, 0, none⟩ (.bool false)).cell? ⟨w.heap.size, 0, none⟩ = some (.bool false) := (hblk2.set_ 0 _).cell 0
        have k2 : ((w2.setCell ⟨w.heap.size, 0, none⟩ (.bool false)).setCell ⟨w.heap.size, 1, none⟩ (.slice B (dgs (65536 ^ 4) v).length d)).cell? ⟨w.heap.size, 1, none⟩ = some (.slice B (dgs (65536 ^ 4) v).length d) := ((hblk2.set_ 0 _).set_ 1 _).cell 1
        clear hge hb2
        go_wp2_with fail
        refine bodyPost_ret (v := .tuple #[.agg #[.bool false, .slice B (dgs (65536 ^ 4) v).length d], .int .i64 0]) (by simp [results, Tryz.results78, go_sem, hz2, k1, k2]) rfl ⟨_, rfl, ⟨B, d, rfl, (hB.set_ HGE.out _).set_ HGE.out _, HGW.out⟩, (hbw2.setCell (p := ⟨w.heap.size, 0, none⟩) (Nat.le_refl _) _).setCell (p := ⟨w.heap.size, 1, none⟩) (Nat.le_refl _) _⟩
      · rw [if_pos (by simpa using her)]
        have he1 : ((er : Int) != 0) = true := bne_iff_ne.2 (by omega)
        go_enter Tryz.func78, Tryz.ntmps78
        go_wp2_with fail
        refine (H4.out _).mono ?_
        rintro e w1 ⟨A, c, rfl, hA, hb⟩
        have hbw : Below w.heap.size w w1 := ((Below.refl w.heap.size w).alloc (Nat.le_refl _) (.cells #[.bool false, .slice none 0 0] 104)).trans (hb.mono (by simp))
        have hblk : Blk w1 w.heap.size 104 #[.bool false, .slice none 0 0] := (Blk.new w _ _).below hb (by simp)
        have hz1 : w.heap.size + 1 ≤ w1.heap.size := by have := hb.size; simpa using this
        have c0 := hblk.cell 0
        have c1 := hblk.cell 1
        have f0 := hblk.frozen 0
        have f1 := hblk.frozen 1
        change w1.cell? _ = some (.bool false) at c0
        change w1.cell? _ = some (.slice none 0 0) at c1
        have k1 : (w1.setCell ⟨w.heap.size, 0, none⟩ (.bool false)).cell? ⟨w.heap.size, 0, none⟩ = some (.bool false) := (hblk.set_ 0 _).cell 0
        have k2 : ((w1.setCell ⟨w.heap.size, 0, none⟩ (.bool false)).setCell ⟨w.heap.size, 1, none⟩ (.slice none 0 0)).cell? ⟨w.heap.size, 1, none⟩ = some (.slice none 0 0) := ((hblk.set_ 0 _).set_ 1 _).cell 1
        clear hb
        go_wp2_with fail
        refine bodyPost_ret (v := .tuple #[.agg #[.bool false, .slice none 0 0], .int .i64 er]) (by simp [results, Tryz.results78, go_sem, hz1, k1, k2]) rfl ⟨_, rfl, IntVal.zero _ _, (hbw.setCell (p := ⟨w.heap.size, 0, none⟩) (Nat.le_refl _) _).setCell (p := ⟨w.heap.size, 1, none⟩) (Nat.le_refl _) _⟩
end Go.Proofs.YtbhekkkijomglaaGreatDoor
