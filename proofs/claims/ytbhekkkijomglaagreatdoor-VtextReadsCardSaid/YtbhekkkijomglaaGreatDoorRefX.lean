/- The walk of the reference's run: numbers. -/
import Derived.Test.YtbhekkkijomglaaGreatDoorRefV
namespace Go.Proofs.YtbhekkkijomglaaGreatDoor
open Go.RowKit

/-- A slice's value holds a number's digits. -/
def Num5 (w : World) (B : Option Addr) (v : Nat) : Prop := Nsl w B (dgs (65536 ^ 4) v)
theorem Num5.alloc {w : World} {B : Option Addr} {v : Nat} (h : Num5 w B v) (o : Obj) : Num5 (w.alloc o) B v :=
  Nsl.below h ((Below.refl _ _).alloc (Nat.le_refl _) o)
theorem read5_fit (s : ByteArray) (hs : s.size ≤ 20000) (er v dl : Nat) (neg : Bool) (hr : read5 s.data.toList = (er, neg, v)) (hdl : dl = (dgs (65536 ^ 4) v).length) (W : World) :
    Calls Tryz.prog 78 #[.string s] W fun e w' => ∃ B d, e = .returned (.tuple #[.agg #[.bool neg, .slice B dl d], .int .i64 er]) ∧ Num5 w' B v ∧ Below W.heap.size W w' := by
  refine (read5_any s W hs).mono ?_
  rintro e w1 ⟨xv, rfl, ⟨B, d, rfl, hB, hge⟩, hb1⟩
  rw [hr] at hB ⊢
  subst hdl
  exact ⟨B, d, rfl, hB, hb1⟩

set_option maxRecDepth 100000 in
set_option maxHeartbeats 1000000 in
theorem num_bad (s : ByteArray) (w : World) (neg : Bool) (v dl : Nat) (h0 : 0 < s.size)
    (hlead : ((s.size : Int) == 1) = false ∨ ((s.size : Int) == 1) = true)
    (HBR : Hid (((s.size : Int) == 1) = true → ∀ W, Calls Tryz.prog 53 #[.int .u8 (s[0].toNat : Nat)] W fun e w' => e = .returned (.int .u8 0) ∧ W = w'))
    (HL0 : Hid (∀ W, Calls Tryz.prog 76 #[.int .u8 (s[0].toNat : Nat)] W fun e w' => e = .returned (.bool false) ∧ W = w'))
    (hdg : digB s[0] = true ∨ (digB s[0] = false ∧ ((s[0].toNat : Int) == 45) = true)) (er : Nat) (he1 : ((er : Int) == 5) = false) (he2 : ((er : Int) != 0) = true)
    (H5 : Hid (∀ W, Calls Tryz.prog 78 #[.string s] W fun e w' => ∃ B d, e = .returned (.tuple #[.agg #[.bool neg, .slice B dl d], .int .i64 er]) ∧ Num5 w' B v ∧ Below W.heap.size W w')) :
    Calls Tryz.prog 54 #[.string s] w fun e w' => e = .returned (.tuple #[.agg #[.int .u8 0, .int .i64 0, .int .i64 0, .int .i64 0, .string ⟨#[]⟩], .int .i64 3]) ∧ Below w.heap.size w w' := by
  rcases hdg with hdg | ⟨hdg, h45⟩
  all_goals
    have HD0 := Lib.hid (fun W => rdigit_any s[0] W _ hdg)
    rcases hlead with hf | hf
    all_goals
      go_enter Tryz.func54, Tryz.ntmps54
      go_wp2_with (first | (go_at_call 53; refine (HBR.out hf _).mono ?_; rintro e w' ⟨rfl, rfl⟩) | (go_at_call 76; refine (HL0.out _).mono ?_; rintro e w' ⟨rfl, rfl⟩) | (go_at_call 77; refine (HD0.out _).mono ?_; rintro e w' ⟨rfl, rfl⟩))
      refine (H5.out _).mono ?_
      rintro e w1 ⟨B, d, rfl, hB, hb1⟩
      have hBk1 : Blk w1 w.heap.size 67 #[.int .u8 0, .int .i64 0, .int .i64 0, .int .i64 0, .string ⟨#[]⟩] := (Blk.new w _ _).below hb1 (by simp)
      have hlt1 := hBk1.lt
      have hgne : ¬ w.heap.size = w1.heap.size := by omega
      have hb0 := ((Below.refl w.heap.size w).alloc (Nat.le_refl _) (.cells #[.int .u8 0, .int .i64 0, .int .i64 0, .int .i64 0, .string ⟨#[]⟩] 67)).trans (hb1.mono (by simp))
      have hBk2 := hBk1.alloc (.cells #[.bool neg, .slice B dl d] 104)
      have hb2 := hb0.alloc hb0.size (.cells #[.bool neg, .slice B dl d] 104)
      have hB2 := hB.alloc (.cells #[.bool neg, .slice B dl d] 104)
      clear hb1 hb0 hB
      clear hB2 hgne hlt1
      obtain ⟨⟨c0, c1, c2, c3, c4⟩, f0, f1, f2, f3, f4⟩ := hBk2.five
      obtain ⟨⟨r0, r1, r2, r3, r4⟩, _⟩ := (hBk2.set5 (.int .u8 0) (.int .i64 0) (.int .i64 0) (.int .i64 0) (.string ⟨#[]⟩)).five
      have HR := Lib.hid (And.intro r0 (And.intro r1 (And.intro r2 (And.intro r3 r4))))
      clear r0 r1 r2 r3 r4
      have HFIN := Lib.hid (below_set5 hb2 (Nat.le_refl _) (.int .u8 0) (.int .i64 0) (.int .i64 0) (.int .i64 0) (.string ⟨#[]⟩))
      clear hBk2 hb2 hBk1
      generalize hg : w.heap.size = g at *
      have HG := Lib.hid hg; clear hg
      go_wp2_with fail
      obtain ⟨r0, r1, r2, r3, r4⟩ := HR.out
      refine bodyPost_ret (v := .tuple #[.agg #[.int .u8 0, .int .i64 0, .int .i64 0, .int .i64 0, .string ⟨#[]⟩], .int .i64 3]) (by simp [results, Tryz.results54, go_sem, r0, r1, r2, r3, r4]) rfl ⟨rfl, ?_⟩
      rw [HG.out]
      exact HFIN.out

set_option maxRecDepth 100000 in
set_option maxHeartbeats 1000000 in
theorem num_ok (s : ByteArray) (w : World) (neg : Bool) (v dl : Nat) (h0 : 0 < s.size)
    (hlead : ((s.size : Int) == 1) = false ∨ ((s.size : Int) == 1) = true)
    (HBR : Hid (((s.size : Int) == 1) = true → ∀ W, Calls Tryz.prog 53 #[.int .u8 (s[0].toNat : Nat)] W fun e w' => e = .returned (.int .u8 0) ∧ W = w'))
    (HL0 : Hid (∀ W, Calls Tryz.prog 76 #[.int .u8 (s[0].toNat : Nat)] W fun e w' => e = .returned (.bool false) ∧ W = w'))
    (hdg : digB s[0] = true ∨ (digB s[0] = false ∧ ((s[0].toNat : Int) == 45) = true)) (n : Int)
    (HSM : Hid (∀ B d W, Num5 W B v → Calls Tryz.prog 79 #[.agg #[.bool neg, .slice B dl d]] W fun e w' => e = .returned (.tuple #[.int .i64 n, .bool true]) ∧ Below W.heap.size W w'))
    (H5 : Hid (∀ W, Calls Tryz.prog 78 #[.string s] W fun e w' => ∃ B d, e = .returned (.tuple #[.agg #[.bool neg, .slice B dl d], .int .i64 0]) ∧ Num5 w' B v ∧ Below W.heap.size W w')) :
    Calls Tryz.prog 54 #[.string s] w fun e w' => e = .returned (.tuple #[.agg #[.int .u8 8, .int .i64 0, .int .i64 0, .int .i64 n, .string ⟨#[]⟩], .int .i64 0]) ∧ Below w.heap.size w w' := by
  rcases hdg with hdg | ⟨hdg, h45⟩
  all_goals
    have HD0 := Lib.hid (fun W => rdigit_any s[0] W _ hdg)
    rcases hlead with hf | hf
    all_goals
      go_enter Tryz.func54, Tryz.ntmps54
      go_wp2_with (first | (go_at_call 53; refine (HBR.out hf _).mono ?_; rintro e w' ⟨rfl, rfl⟩) | (go_at_call 76; refine (HL0.out _).mono ?_; rintro e w' ⟨rfl, rfl⟩) | (go_at_call 77; refine (HD0.out _).mono ?_; rintro e w' ⟨rfl, rfl⟩))
      refine (H5.out _).mono ?_
      rintro e w1 ⟨B, d, rfl, hB, hb1⟩
      have hBk1 : Blk w1 w.heap.size 67 #[.int .u8 0, .int .i64 0, .int .i64 0, .int .i64 0, .string ⟨#[]⟩] := (Blk.new w _ _).below hb1 (by simp)
      have hlt1 := hBk1.lt
      have hgne : ¬ w.heap.size = w1.heap.size := by omega
      have hb0 := ((Below.refl w.heap.size w).alloc (Nat.le_refl _) (.cells #[.int .u8 0, .int .i64 0, .int .i64 0, .int .i64 0, .string ⟨#[]⟩] 67)).trans (hb1.mono (by simp))
      have hBk2 := hBk1.alloc (.cells #[.bool neg, .slice B dl d] 104)
      have hb2 := hb0.alloc hb0.size (.cells #[.bool neg, .slice B dl d] 104)
      have hB2 := hB.alloc (.cells #[.bool neg, .slice B dl d] 104)
      clear hb1 hb0 hB
      go_wp2_with fail
      refine (HSM.out B d _ hB2).mono ?_
      rintro e w3 ⟨rfl, hb3⟩
      have hBk3 := hBk2.below hb3 (by simp; omega)
      have hb4 := hb2.trans (hb3.mono hb2.size)
      clear hB2 hBk2 hb2 hb3
      obtain ⟨⟨c0, c1, c2, c3, c4⟩, f0, f1, f2, f3, f4⟩ := hBk3.five
      obtain ⟨⟨r0, r1, r2, r3, r4⟩, _⟩ := (hBk3.set5 (.int .u8 8) (.int .i64 0) (.int .i64 0) (.int .i64 n) (.string ⟨#[]⟩)).five
      have HR := Lib.hid (And.intro r0 (And.intro r1 (And.intro r2 (And.intro r3 r4))))
      clear r0 r1 r2 r3 r4
      have HFIN := Lib.hid (below_set5 hb4 (Nat.le_refl _) (.int .u8 8) (.int .i64 0) (.int .i64 0) (.int .i64 n) (.string ⟨#[]⟩))
      clear hBk3 hb4 hBk1
      generalize hg : w.heap.size = g at *
      have HG := Lib.hid hg; clear hg
      go_wp2_with fail
      obtain ⟨r0, r1, r2, r3, r4⟩ := HR.out
      refine bodyPost_ret (v := .tuple #[.agg #[.int .u8 8, .int .i64 0, .int .i64 0, .int .i64 n, .string ⟨#[]⟩], .int .i64 0]) (by simp [results, Tryz.results54, go_sem, r0, r1, r2, r3, r4]) rfl ⟨rfl, ?_⟩
      rw [HG.out]
      exact HFIN.out

set_option maxRecDepth 100000 in
set_option maxHeartbeats 1000000 in
theorem num_long (s : ByteArray) (w : World) (neg : Bool) (v dl : Nat) (h0 : 0 < s.size)
    (hlead : ((s.size : Int) == 1) = false ∨ ((s.size : Int) == 1) = true)
    (HBR : Hid (((s.size : Int) == 1) = true → ∀ W, Calls Tryz.prog 53 #[.int .u8 (s[0].toNat : Nat)] W fun e w' => e = .returned (.int .u8 0) ∧ W = w'))
    (HL0 : Hid (∀ W, Calls Tryz.prog 76 #[.int .u8 (s[0].toNat : Nat)] W fun e w' => e = .returned (.bool false) ∧ W = w'))
    (hdg : digB s[0] = true ∨ (digB s[0] = false ∧ ((s[0].toNat : Int) == 45) = true)) (n : Int)
    (HSM : Hid (∀ B d W, Num5 W B v → Calls Tryz.prog 79 #[.agg #[.bool neg, .slice B dl d]] W fun e w' => e = .returned (.tuple #[.int .i64 n, .bool false]) ∧ Below W.heap.size W w'))
    (H5 : Hid (∀ W, Calls Tryz.prog 78 #[.string s] W fun e w' => ∃ B d, e = .returned (.tuple #[.agg #[.bool neg, .slice B dl d], .int .i64 0]) ∧ Num5 w' B v ∧ Below W.heap.size W w')) :
    Calls Tryz.prog 54 #[.string s] w fun e w' => e = .returned (.tuple #[.agg #[.int .u8 0, .int .i64 0, .int .i64 0, .int .i64 0, .string ⟨#[]⟩], .int .i64 5]) ∧ Below w.heap.size w w' := by
  rcases hdg with hdg | ⟨hdg, h45⟩
  all_goals
    have HD0 := Lib.hid (fun W => rdigit_any s[0] W _ hdg)
    rcases hlead with hf | hf
    all_goals
      go_enter Tryz.func54, Tryz.ntmps54
      go_wp2_with (first | (go_at_call 53; refine (HBR.out hf _).mono ?_; rintro e w' ⟨rfl, rfl⟩) | (go_at_call 76; refine (HL0.out _).mono ?_; rintro e w' ⟨rfl, rfl⟩) | (go_at_call 77; refine (HD0.out _).mono ?_; rintro e w' ⟨rfl, rfl⟩))
      refine (H5.out _).mono ?_
      rintro e w1 ⟨B, d, rfl, hB, hb1⟩
      have hBk1 : Blk w1 w.heap.size 67 #[.int .u8 0, .int .i64 0, .int .i64 0, .int .i64 0, .string ⟨#[]⟩] := (Blk.new w _ _).below hb1 (by simp)
      have hlt1 := hBk1.lt
      have hgne : ¬ w.heap.size = w1.heap.size := by omega
      have hb0 := ((Below.refl w.heap.size w).alloc (Nat.le_refl _) (.cells #[.int .u8 0, .int .i64 0, .int .i64 0, .int .i64 0, .string ⟨#[]⟩] 67)).trans (hb1.mono (by simp))
      have hBk2 := hBk1.alloc (.cells #[.bool neg, .slice B dl d] 104)
      have hb2 := hb0.alloc hb0.size (.cells #[.bool neg, .slice B dl d] 104)
      have hB2 := hB.alloc (.cells #[.bool neg, .slice B dl d] 104)
      clear hb1 hb0 hB
      go_wp2_with fail
      refine (HSM.out B d _ hB2).mono ?_
      rintro e w3 ⟨rfl, hb3⟩
      have hBk3 := hBk2.below hb3 (by simp; omega)
      have hb4 := hb2.trans (hb3.mono hb2.size)
      clear hB2 hBk2 hb2 hb3
      obtain ⟨⟨c0, c1, c2, c3, c4⟩, f0, f1, f2, f3, f4⟩ := hBk3.five
      obtain ⟨⟨r0, r1, r2, r3, r4⟩, _⟩ := (hBk3.set5 (.int .u8 0) (.int .i64 0) (.int .i64 0) (.int .i64 0) (.string ⟨#[]⟩)).five
      have HR := Lib.hid (And.intro r0 (And.intro r1 (And.intro r2 (And.intro r3 r4))))
      clear r0 r1 r2 r3 r4
      have HFIN := Lib.hid (below_set5 hb4 (Nat.le_refl _) (.int .u8 0) (.int .i64 0) (.int .i64 0) (.int .i64 0) (.string ⟨#[]⟩))
      clear hBk3 hb4 hBk1
      generalize hg : w.heap.size = g at *
      have HG := Lib.hid hg; clear hg
      go_wp2_with fail
      obtain ⟨r0, r1, r2, r3, r4⟩ := HR.out
      refine bodyPost_ret (v := .tuple #[.agg #[.int .u8 0, .int .i64 0, .int .i64 0, .int .i64 0, .string ⟨#[]⟩], .int .i64 5]) (by simp [results, Tryz.results54, go_sem, r0, r1, r2, r3, r4]) rfl ⟨rfl, ?_⟩
      rw [HG.out]
      exact HFIN.out

/-- What stands ahead of a number's run. -/
theorem num_front (s : ByteArray) (h : NoBr s) (hb : letB (s.data.toList.headD 0) = false) (hc : (digB (s.data.toList.headD 0) || s.data.toList.headD 0 == 45) = true) :
    ∃ h0 : 0 < s.size, (((s.size : Int) == 1) = false ∨ ((s.size : Int) == 1) = true) ∧
      Hid (((s.size : Int) == 1) = true → ∀ W, Calls Tryz.prog 53 #[.int .u8 (s[0].toNat : Nat)] W fun e w' => e = .returned (.int .u8 0) ∧ W = w') ∧
      Hid (∀ W, Calls Tryz.prog 76 #[.int .u8 (s[0].toNat : Nat)] W fun e w' => e = .returned (.bool false) ∧ W = w') ∧
      (digB s[0] = true ∨ (digB s[0] = false ∧ ((s[0].toNat : Int) == 45) = true)) := by
  obtain ⟨h0, hf0⟩ := run_front h
  have hd0 : s.data.toList.headD 0 = s[0] := by
    have := data_get s 0 h0
    cases hh : s.data.toList with
    | nil => rw [hh] at this; cases this
    | cons c r => rw [hh] at this; exact Option.some.inj this
  rw [hd0] at hb hc
  refine ⟨h0, by cases ((s.size : Int) == 1) <;> simp, ?_, fun W => rletter_any s[0] W false hb, ?_⟩
  · intro hh
    rcases hf0 with k | ⟨_, k⟩
    · rw [k] at hh; cases hh
    · exact k
  · cases hq : digB s[0]
    · rw [hq, Bool.false_or] at hc
      refine .inr ⟨rfl, ?_⟩
      rw [show s[0] = 45 by simpa using hc]; rfl
    · exact .inl rfl

theorem run_numbad (s : ByteArray) (w : World) (hs : s.size ≤ 20000) (h : NoBr s) (hb : letB (s.data.toList.headD 0) = false) (hc : (digB (s.data.toList.headD 0) || s.data.toList.headD 0 == 45) = true) (er : Nat) (her : er ≠ 0) (her2 : er ≤ 4) (hr : read5 s.data.toList = (er, false, 0)) :
    Calls Tryz.prog 54 #[.string s] w (RunR w (bad 3)) := by
  obtain ⟨h0, h1, h2, h3, h4⟩ := num_front s h hb hc
  exact num_bad s w false 0 _ h0 h1 h2 h3 h4 er (beq_eq_false_iff_ne.2 (by omega)) (bne_iff_ne.2 (by omega)) (Lib.hid (read5_fit s hs er 0 _ false hr rfl))

theorem run_numpos (s : ByteArray) (w : World) (hs : s.size ≤ 20000) (h : NoBr s) (hb : letB (s.data.toList.headD 0) = false) (hc : (digB (s.data.toList.headD 0) || s.data.toList.headD 0 == 45) = true) (v : Nat) (hln : (dgs (65536 ^ 4) v).length ≤ 100000) (h1 : v ≤ 9223372036854775807) (hr : read5 s.data.toList = (0, false, v)) :
    Calls Tryz.prog 54 #[.string s] w (RunR w (((8, (v : Int), []), 0))) := by
  obtain ⟨h0, h1', h2', h3, h4⟩ := num_front s h hb hc
  exact num_ok s w false v _ h0 h1' h2' h3 h4 (v : Int) (Lib.hid (fun B d W h => small_pos v B d W h hln h1)) (Lib.hid (read5_fit s hs 0 v _ false hr rfl))

theorem run_numposlong (s : ByteArray) (w : World) (hs : s.size ≤ 20000) (h : NoBr s) (hb : letB (s.data.toList.headD 0) = false) (hc : (digB (s.data.toList.headD 0) || s.data.toList.headD 0 == 45) = true) (v : Nat) (hln : (dgs (65536 ^ 4) v).length ≤ 100000) (h1 : 9223372036854775807 < v) (hr : read5 s.data.toList = (0, false, v)) :
    Calls Tryz.prog 54 #[.string s] w (RunR w (bad 5)) := by
  obtain ⟨h0, h1', h2', h3, h4⟩ := num_front s h hb hc
  exact num_long s w false v _ h0 h1' h2' h3 h4 0 (Lib.hid (fun B d W h => (by rcases (by omega : v < 18446744073709551616 ∨ 18446744073709551616 ≤ v) with h2 | h2; exact small_pos_long v B d W h hln h1 h2; exact small_pos_great v B d W h hln h2))) (Lib.hid (read5_fit s hs 0 v _ false hr rfl))

theorem run_numneg (s : ByteArray) (w : World) (hs : s.size ≤ 20000) (h : NoBr s) (hb : letB (s.data.toList.headD 0) = false) (hc : (digB (s.data.toList.headD 0) || s.data.toList.headD 0 == 45) = true) (v : Nat) (hln : (dgs (65536 ^ 4) v).length ≤ 100000) (hp : 0 < v) (h1 : v ≤ 9223372036854775808) (hr : read5 s.data.toList = (0, true, v)) :
    Calls Tryz.prog 54 #[.string s] w (RunR w (((8, -(v : Int), []), 0))) := by
  obtain ⟨h0, h1', h2', h3, h4⟩ := num_front s h hb hc
  exact num_ok s w true v _ h0 h1' h2' h3 h4 (-(v : Int)) (Lib.hid (fun B d W h => small_neg v B d W h hln hp h1)) (Lib.hid (read5_fit s hs 0 v _ true hr rfl))

theorem run_numneglong (s : ByteArray) (w : World) (hs : s.size ≤ 20000) (h : NoBr s) (hb : letB (s.data.toList.headD 0) = false) (hc : (digB (s.data.toList.headD 0) || s.data.toList.headD 0 == 45) = true) (v : Nat) (hln : (dgs (65536 ^ 4) v).length ≤ 100000) (hp : 0 < v) (h1 : 9223372036854775808 < v) (hr : read5 s.data.toList = (0, true, v)) :
    Calls Tryz.prog 54 #[.string s] w (RunR w (bad 5)) := by
  obtain ⟨h0, h1', h2', h3, h4⟩ := num_front s h hb hc
  exact num_long s w true v _ h0 h1' h2' h3 h4 0 (Lib.hid (fun B d W h => (by rcases (by omega : v < 18446744073709551616 ∨ 18446744073709551616 ≤ v) with h2 | h2; exact small_neg_long v B d W h hln hp h1 h2; exact small_neg_great v B d W h hln hp h2))) (Lib.hid (read5_fit s hs 0 v _ true hr rfl))
end Go.Proofs.YtbhekkkijomglaaGreatDoor
