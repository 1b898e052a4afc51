/- The walk of the reference's Show of marks. -/
import Derived.Test.YtckmhbgpaiocbaaGreatDoorShoA
import Derived.Test.YtckmhbgpaiocbaaGreatDoorRefZ
import Derived.Test.YtckmhbgpaiocbaaGreatDoorLexW5
namespace Go.Proofs.YtckmhbgpaiocbaaGreatDoor
open Go.RowKit

/-- What Show asks of the mark that Next tells: the first question that is answered by yes, or none; and what it tells. -/
inductive Asked (k : Nat) (n : Int) (l X : List UInt8) (kk xa xe : Nat) (xn : Int) (xl : List UInt8) (er : Nat) (R : List UInt8 × Nat) : Prop
  | q1 (h : er ≠ 0) (hR : R = ([], 3))
  | q2 (h0 : er = 0) (h : xa ≠ 0) (hR : R = ([], 3))
  | q3 (h0 : er = 0) (h1 : xa = 0) (h : xe ≠ (bs X).size) (hR : R = ([], 3))
  | q4 (h0 : er = 0) (h1 : xa = 0) (h2 : xe = (bs X).size) (h : kk ≠ k) (hR : R = ([], 3))
  | q5 (h0 : er = 0) (h1 : xa = 0) (h2 : xe = (bs X).size) (h3 : kk = k) (h : xn ≠ n) (hR : R = ([], 3))
  | q6 (h0 : er = 0) (h1 : xa = 0) (h2 : xe = (bs X).size) (h3 : kk = k) (h4 : xn = n) (h : xl ≠ l) (hR : R = ([], 3))
  | no (h0 : er = 0) (h1 : xa = 0) (h2 : xe = (bs X).size) (h3 : kk = k) (h4 : xn = n) (h5 : xl = l) (hR : R = (X, 0))
theorem bs_neq {a b : List UInt8} (h : a ≠ b) : (!(bs a).toList == (bs b).toList) = true := by
  rw [Lib.toList_data, Lib.toList_data, bs_list, bs_list]
  simpa using h
theorem asked_of {k : Nat} {n : Int} {l X : List UInt8} {kk xa xe : Nat} {xn : Int} {xl : List UInt8} {pl er : Nat} (hX : refS k n l = X) (hne : X ≠ []) (hx : lexNext X 0 = ((kk, xa, xe, xn, xl), pl, er)) :
    Asked k n l X kk xa xe xn xl er (refShow k n l) := by
  have hd : refShow k n l = if er ≠ 0 ∨ xa ≠ 0 ∨ xe ≠ X.length ∨ kk ≠ k ∨ xn ≠ n ∨ xl ≠ l then ([], 3) else (X, 0) := by
    unfold refShow
    rw [hX, if_neg hne, hx]
  have hz : X.length = (bs X).size := (bs_size X).symm
  by_cases h0 : er = 0
  · by_cases h1 : xa = 0
    · by_cases h2 : xe = (bs X).size
      · by_cases h3 : kk = k
        · by_cases h4 : xn = n
          · by_cases h5 : xl = l
            · exact .no h0 h1 h2 h3 h4 h5 (by rw [hd, if_neg]; rintro (q | q | q | q | q | q) <;> first | exact q h0 | exact q h1 | exact q (h2.trans hz.symm) | exact q h3 | exact q h4 | exact q h5)
            · exact .q6 h0 h1 h2 h3 h4 h5 (by rw [hd, if_pos (.inr (.inr (.inr (.inr (.inr h5)))))])
          · exact .q5 h0 h1 h2 h3 h4 (by rw [hd, if_pos (.inr (.inr (.inr (.inr (.inl h4)))))])
        · exact .q4 h0 h1 h2 h3 (by rw [hd, if_pos (.inr (.inr (.inr (.inl h3))))])
      · exact .q3 h0 h1 h2 (by rw [hd, if_pos (.inr (.inr (.inl (fun q => h2 (q.trans hz)))))])
    · exact .q2 h0 h1 (by rw [hd, if_pos (.inr (.inl h1))])
  · exact .q1 h0 (by rw [hd, if_pos (.inl h0)])

set_option maxRecDepth 100000 in
set_option maxHeartbeats 4000000 in
theorem rshow_word  (a e n : Int) (l : List UInt8) (w : World) (hl : l ≠ []) (kk xa xe : Nat) (xn : Int) (xl : List UInt8) (pl er : Nat) (R : List UInt8 × Nat)
    (HN : Hid (∀ W, Calls Tryz.prog 19 #[.string (bs l), .int .i64 0] W fun e' w' => e' = .returned (.tuple #[.agg #[.int .u8 kk, .int .i64 xa, .int .i64 xe, .int .i64 xn, .string (bs xl)], .int .i64 pl, .int .i64 er]) ∧ Below W.heap.size W w'))
    (hC : Asked 7 n l l kk xa xe xn xl er R) :
    Calls Tryz.prog 7 #[.agg #[.int .u8 7, .int .i64 a, .int .i64 e, .int .i64 n, .string (bs l)]] w fun e' w' => e' = .returned (showVal R) ∧ Below w.heap.size w w' := by
  have hb0 : Hid (Below w.heap.size w (w.alloc (.cells #[.int .u8 7, .int .i64 a, .int .i64 e, .int .i64 n, .string (bs l)] 32))) := (Below.refl _ _).alloc (Nat.le_refl _) _
  have hk0 := Lib.hid (Blk.new w 32 #[.int .u8 7, .int .i64 a, .int .i64 e, .int .i64 n, .string (bs l)])
  have hle := bs_full l hl
  clear hl
  cases hC with
  | q1 h hR =>
    have t1 : ((er : Int) != 0) = true := bne_iff_ne.2 (by omega)
    have t2 : ((er : Int) == 0) = false := beq_eq_false_iff_ne.2 (by omega)
    have HR := Lib.hid hR
    clear hR h
    go_enter Tryz.func7, Tryz.ntmps7
    go_wp2_with fail
    refine (HN.out _).mono ?_
    rintro e' w1 ⟨rfl, hb1⟩
    have hx1 := hb0.out.trans (hb1.mono (by simp))
    have hblk := hk0.out.below hb1 (by simp)
    have hlt := hblk.lt
    have hne : ¬ w.heap.size = w1.heap.size := by omega
    obtain ⟨⟨c0, c1, c2, c3, c4⟩, _⟩ := hblk.five
    have HX := Lib.hid (fun o => hx1.alloc hx1.size o)
    clear hb1 hx1 hblk hk0 hb0 HN
    generalize hg : w.heap.size = g at *
    have HG := Lib.hid hg; clear hg
    go_wp2_with fail
    refine bodyPost_ret (v := .tuple #[.string ⟨#[]⟩, .int .i64 3]) (by simp [results, Tryz.results7, go_sem]) rfl ⟨by rw [HR.out]; rfl, ?_⟩
    rw [HG.out]
    exact HX.out _
  | q2 h0 h hR =>
    subst h0
    have t1 : ((xa : Int) != 0) = true := bne_iff_ne.2 (by omega)
    have t2 : ((xa : Int) == 0) = false := beq_eq_false_iff_ne.2 (by omega)
    have HR := Lib.hid hR
    clear hR h
    go_enter Tryz.func7, Tryz.ntmps7
    go_wp2_with fail
    refine (HN.out _).mono ?_
    rintro e' w1 ⟨rfl, hb1⟩
    have hx1 := hb0.out.trans (hb1.mono (by simp))
    have hblk := hk0.out.below hb1 (by simp)
    have hlt := hblk.lt
    have hne : ¬ w.heap.size = w1.heap.size := by omega
    obtain ⟨⟨c0, c1, c2, c3, c4⟩, _⟩ := hblk.five
    have HX := Lib.hid (fun o => hx1.alloc hx1.size o)
    clear hb1 hx1 hblk hk0 hb0 HN
    generalize hg : w.heap.size = g at *
    have HG := Lib.hid hg; clear hg
    go_wp2_with fail
    refine bodyPost_ret (v := .tuple #[.string ⟨#[]⟩, .int .i64 3]) (by simp [results, Tryz.results7, go_sem]) rfl ⟨by rw [HR.out]; rfl, ?_⟩
    rw [HG.out]
    exact HX.out _
  | q3 h0 h1 h hR =>
    subst h0; subst h1
    have t1 : ((xe : Int) != ((bs l).size : Int)) = true := bne_iff_ne.2 (by omega)
    have t2 : ((xe : Int) == ((bs l).size : Int)) = false := beq_eq_false_iff_ne.2 (by omega)
    have HR := Lib.hid hR
    clear hR h
    go_enter Tryz.func7, Tryz.ntmps7
    go_wp2_with fail
    refine (HN.out _).mono ?_
    rintro e' w1 ⟨rfl, hb1⟩
    have hx1 := hb0.out.trans (hb1.mono (by simp))
    have hblk := hk0.out.below hb1 (by simp)
    have hlt := hblk.lt
    have hne : ¬ w.heap.size = w1.heap.size := by omega
    obtain ⟨⟨c0, c1, c2, c3, c4⟩, _⟩ := hblk.five
    have HX := Lib.hid (fun o => hx1.alloc hx1.size o)
    clear hb1 hx1 hblk hk0 hb0 HN
    generalize hg : w.heap.size = g at *
    have HG := Lib.hid hg; clear hg
    go_wp2_with fail
    refine bodyPost_ret (v := .tuple #[.string ⟨#[]⟩, .int .i64 3]) (by simp [results, Tryz.results7, go_sem]) rfl ⟨by rw [HR.out]; rfl, ?_⟩
    rw [HG.out]
    exact HX.out _
  | q4 h0 h1 h2 h hR =>
    subst h0; subst h1; subst h2
    have t1 : ((kk : Int) != 7) = true := bne_iff_ne.2 (by omega)
    have t2 : ((kk : Int) == 7) = false := beq_eq_false_iff_ne.2 (by omega)
    have t3 : ¬ (kk : Int) = 7 := by omega
    have HR := Lib.hid hR
    clear hR h
    go_enter Tryz.func7, Tryz.ntmps7
    go_wp2_with fail
    refine (HN.out _).mono ?_
    rintro e' w1 ⟨rfl, hb1⟩
    have hx1 := hb0.out.trans (hb1.mono (by simp))
    have hblk := hk0.out.below hb1 (by simp)
    have hlt := hblk.lt
    have hne : ¬ w.heap.size = w1.heap.size := by omega
    obtain ⟨⟨c0, c1, c2, c3, c4⟩, _⟩ := hblk.five
    have HX := Lib.hid (fun o => hx1.alloc hx1.size o)
    clear hb1 hx1 hblk hk0 hb0 HN
    generalize hg : w.heap.size = g at *
    have HG := Lib.hid hg; clear hg
    go_wp2_with fail
    refine bodyPost_ret (v := .tuple #[.string ⟨#[]⟩, .int .i64 3]) (by simp [results, Tryz.results7, go_sem]) rfl ⟨by rw [HR.out]; rfl, ?_⟩
    rw [HG.out]
    exact HX.out _
  | q5 h0 h1 h2 h3 h hR =>
    have h3' := h3.symm
    subst h0; subst h1; subst h2; subst h3'
    have t1 : (xn != n) = true := bne_iff_ne.2 h
    have t2 : (xn == n) = false := beq_eq_false_iff_ne.2 h
    have t3 : ¬ xn = n := h
    have HR := Lib.hid hR
    clear hR h
    go_enter Tryz.func7, Tryz.ntmps7
    go_wp2_with fail
    refine (HN.out _).mono ?_
    rintro e' w1 ⟨rfl, hb1⟩
    have hx1 := hb0.out.trans (hb1.mono (by simp))
    have hblk := hk0.out.below hb1 (by simp)
    have hlt := hblk.lt
    have hne : ¬ w.heap.size = w1.heap.size := by omega
    obtain ⟨⟨c0, c1, c2, c3, c4⟩, _⟩ := hblk.five
    have HX := Lib.hid (fun o => hx1.alloc hx1.size o)
    clear hb1 hx1 hblk hk0 hb0 HN
    generalize hg : w.heap.size = g at *
    have HG := Lib.hid hg; clear hg
    go_wp2_with fail
    refine bodyPost_ret (v := .tuple #[.string ⟨#[]⟩, .int .i64 3]) (by simp [results, Tryz.results7, go_sem]) rfl ⟨by rw [HR.out]; rfl, ?_⟩
    rw [HG.out]
    exact HX.out _
  | q6 h0 h1 h2 h3 h4 h hR =>
    have h3' := h3.symm
    have h4' := h4.symm
    subst h0; subst h1; subst h2; subst h3'; subst h4'
    have t1 : (!(bs xl).toList == (bs l).toList) = true := bs_neq h
    have HR := Lib.hid hR
    clear hR h
    go_enter Tryz.func7, Tryz.ntmps7
    go_wp2_with fail
    refine (HN.out _).mono ?_
    rintro e' w1 ⟨rfl, hb1⟩
    have hx1 := hb0.out.trans (hb1.mono (by simp))
    have hblk := hk0.out.below hb1 (by simp)
    have hlt := hblk.lt
    have hne : ¬ w.heap.size = w1.heap.size := by omega
    obtain ⟨⟨c0, c1, c2, c3, c4⟩, _⟩ := hblk.five
    have HX := Lib.hid (fun o => hx1.alloc hx1.size o)
    clear hb1 hx1 hblk hk0 hb0 HN
    generalize hg : w.heap.size = g at *
    have HG := Lib.hid hg; clear hg
    go_wp2_with fail
    refine bodyPost_ret (v := .tuple #[.string ⟨#[]⟩, .int .i64 3]) (by simp [results, Tryz.results7, go_sem]) rfl ⟨by rw [HR.out]; rfl, ?_⟩
    rw [HG.out]
    exact HX.out _
  | no h0 h1 h2 h3 h4 h5 hR =>
    have h3' := h3.symm
    have h4' := h4.symm
    have h5' := h5.symm
    clear h3 h4 h5
    subst h0; subst h1; subst h2; subst h3'; subst h4'; subst h5'
    have HR := Lib.hid hR
    clear hR
    go_enter Tryz.func7, Tryz.ntmps7
    go_wp2_with fail
    refine (HN.out _).mono ?_
    rintro e' w1 ⟨rfl, hb1⟩
    have hx1 := hb0.out.trans (hb1.mono (by simp))
    have hblk := hk0.out.below hb1 (by simp)
    have hlt := hblk.lt
    have hne : ¬ w.heap.size = w1.heap.size := by omega
    obtain ⟨⟨c0, c1, c2, c3, c4⟩, _⟩ := hblk.five
    have HX := Lib.hid (fun o => hx1.alloc hx1.size o)
    clear hb1 hx1 hblk hk0 hb0 HN
    generalize hg : w.heap.size = g at *
    have HG := Lib.hid hg; clear hg
    go_wp2_with fail
    refine bodyPost_ret (v := .tuple #[.string (bs l), .int .i64 0]) (by simp [results, Tryz.results7, go_sem]) rfl ⟨by rw [HR.out]; rfl, ?_⟩
    rw [HG.out]
    exact HX.out _

set_option maxRecDepth 100000 in
set_option maxHeartbeats 4000000 in
theorem rshow_br (k : Nat) (a e n : Int) (l : List UInt8) (w : World) (X : List UInt8) (a1 : (1 : Int) ≤ (k : Int)) (a2 : (k : Int) ≤ 6) (hf : X ≠ []) (hx : (⟨#[40, 41, 91, 93, 60, 62]⟩ : ByteArray).extract (k - 1) k = bs X) (kk xa xe : Nat) (xn : Int) (xl : List UInt8) (pl er : Nat) (R : List UInt8 × Nat)
    (HN : Hid (∀ W, Calls Tryz.prog 19 #[.string (bs X), .int .i64 0] W fun e' w' => e' = .returned (.tuple #[.agg #[.int .u8 kk, .int .i64 xa, .int .i64 xe, .int .i64 xn, .string (bs xl)], .int .i64 pl, .int .i64 er]) ∧ Below W.heap.size W w'))
    (hC : Asked k n l X kk xa xe xn xl er R) :
    Calls Tryz.prog 7 #[.agg #[.int .u8 k, .int .i64 a, .int .i64 e, .int .i64 n, .string (bs l)]] w fun e' w' => e' = .returned (showVal R) ∧ Below w.heap.size w w' := by
  have hb0 : Hid (Below w.heap.size w (w.alloc (.cells #[.int .u8 k, .int .i64 a, .int .i64 e, .int .i64 n, .string (bs l)] 32))) := (Below.refl _ _).alloc (Nat.le_refl _) _
  have hk0 := Lib.hid (Blk.new w 32 #[.int .u8 k, .int .i64 a, .int .i64 e, .int .i64 n, .string (bs l)])
  have hxe := bs_full X hf
  have k7 : ((k : Int) == 7) = false := beq_eq_false_iff_ne.2 (by omega)
  have k8 : ((k : Int) == 8) = false := beq_eq_false_iff_ne.2 (by omega)
  have k9 : ((k : Int) == 9) = false := beq_eq_false_iff_ne.2 (by omega)
  clear hf
  cases hC with
  | q1 h hR =>
    have t1 : ((er : Int) != 0) = true := bne_iff_ne.2 (by omega)
    have t2 : ((er : Int) == 0) = false := beq_eq_false_iff_ne.2 (by omega)
    have HR := Lib.hid hR
    clear hR h
    go_enter Tryz.func7, Tryz.ntmps7
    go_wp2_with fail
    refine (HN.out _).mono ?_
    rintro e' w1 ⟨rfl, hb1⟩
    have hx1 := hb0.out.trans (hb1.mono (by simp))
    have hblk := hk0.out.below hb1 (by simp)
    have hlt := hblk.lt
    have hne : ¬ w.heap.size = w1.heap.size := by omega
    obtain ⟨⟨c0, c1, c2, c3, c4⟩, _⟩ := hblk.five
    have HX := Lib.hid (fun o => hx1.alloc hx1.size o)
    clear hb1 hx1 hblk hk0 hb0 HN
    generalize hg : w.heap.size = g at *
    have HG := Lib.hid hg; clear hg
    go_wp2_with fail
    refine bodyPost_ret (v := .tuple #[.string ⟨#[]⟩, .int .i64 3]) (by simp [results, Tryz.results7, go_sem]) rfl ⟨by rw [HR.out]; rfl, ?_⟩
    rw [HG.out]
    exact HX.out _
  | q2 h0 h hR =>
    subst h0
    have t1 : ((xa : Int) != 0) = true := bne_iff_ne.2 (by omega)
    have t2 : ((xa : Int) == 0) = false := beq_eq_false_iff_ne.2 (by omega)
    have HR := Lib.hid hR
    clear hR h
    go_enter Tryz.func7, Tryz.ntmps7
    go_wp2_with fail
    refine (HN.out _).mono ?_
    rintro e' w1 ⟨rfl, hb1⟩
    have hx1 := hb0.out.trans (hb1.mono (by simp))
    have hblk := hk0.out.below hb1 (by simp)
    have hlt := hblk.lt
    have hne : ¬ w.heap.size = w1.heap.size := by omega
    obtain ⟨⟨c0, c1, c2, c3, c4⟩, _⟩ := hblk.five
    have HX := Lib.hid (fun o => hx1.alloc hx1.size o)
    clear hb1 hx1 hblk hk0 hb0 HN
    generalize hg : w.heap.size = g at *
    have HG := Lib.hid hg; clear hg
    go_wp2_with fail
    refine bodyPost_ret (v := .tuple #[.string ⟨#[]⟩, .int .i64 3]) (by simp [results, Tryz.results7, go_sem]) rfl ⟨by rw [HR.out]; rfl, ?_⟩
    rw [HG.out]
    exact HX.out _
  | q3 h0 h1 h hR =>
    subst h0; subst h1
    have t1 : ((xe : Int) != ((bs X).size : Int)) = true := bne_iff_ne.2 (by omega)
    have t2 : ((xe : Int) == ((bs X).size : Int)) = false := beq_eq_false_iff_ne.2 (by omega)
    have HR := Lib.hid hR
    clear hR h
    go_enter Tryz.func7, Tryz.ntmps7
    go_wp2_with fail
    refine (HN.out _).mono ?_
    rintro e' w1 ⟨rfl, hb1⟩
    have hx1 := hb0.out.trans (hb1.mono (by simp))
    have hblk := hk0.out.below hb1 (by simp)
    have hlt := hblk.lt
    have hne : ¬ w.heap.size = w1.heap.size := by omega
    obtain ⟨⟨c0, c1, c2, c3, c4⟩, _⟩ := hblk.five
    have HX := Lib.hid (fun o => hx1.alloc hx1.size o)
    clear hb1 hx1 hblk hk0 hb0 HN
    generalize hg : w.heap.size = g at *
    have HG := Lib.hid hg; clear hg
    go_wp2_with fail
    refine bodyPost_ret (v := .tuple #[.string ⟨#[]⟩, .int .i64 3]) (by simp [results, Tryz.results7, go_sem]) rfl ⟨by rw [HR.out]; rfl, ?_⟩
    rw [HG.out]
    exact HX.out _
  | q4 h0 h1 h2 h hR =>
    subst h0; subst h1; subst h2
    have t1 : ((kk : Int) != (k : Int)) = true := bne_iff_ne.2 (by omega)
    have t2 : ((kk : Int) == (k : Int)) = false := beq_eq_false_iff_ne.2 (by omega)
    have t3 : ¬ (kk : Int) = (k : Int) := by omega
    have HR := Lib.hid hR
    clear hR h
    go_enter Tryz.func7, Tryz.ntmps7
    go_wp2_with fail
    refine (HN.out _).mono ?_
    rintro e' w1 ⟨rfl, hb1⟩
    have hx1 := hb0.out.trans (hb1.mono (by simp))
    have hblk := hk0.out.below hb1 (by simp)
    have hlt := hblk.lt
    have hne : ¬ w.heap.size = w1.heap.size := by omega
    obtain ⟨⟨c0, c1, c2, c3, c4⟩, _⟩ := hblk.five
    have HX := Lib.hid (fun o => hx1.alloc hx1.size o)
    clear hb1 hx1 hblk hk0 hb0 HN
    generalize hg : w.heap.size = g at *
    have HG := Lib.hid hg; clear hg
    go_wp2_with fail
    refine bodyPost_ret (v := .tuple #[.string ⟨#[]⟩, .int .i64 3]) (by simp [results, Tryz.results7, go_sem]) rfl ⟨by rw [HR.out]; rfl, ?_⟩
    rw [HG.out]
    exact HX.out _
  | q5 h0 h1 h2 h3 h hR =>
    have h3' := h3.symm
    subst h0; subst h1; subst h2; subst h3'
    have t1 : (xn != n) = true := bne_iff_ne.2 h
    have t2 : (xn == n) = false := beq_eq_false_iff_ne.2 h
    have t3 : ¬ xn = n := h
    have HR := Lib.hid hR
    clear hR h
    go_enter Tryz.func7, Tryz.ntmps7
    go_wp2_with fail
    refine (HN.out _).mono ?_
    rintro e' w1 ⟨rfl, hb1⟩
    have hx1 := hb0.out.trans (hb1.mono (by simp))
    have hblk := hk0.out.below hb1 (by simp)
    have hlt := hblk.lt
    have hne : ¬ w.heap.size = w1.heap.size := by omega
    obtain ⟨⟨c0, c1, c2, c3, c4⟩, _⟩ := hblk.five
    have HX := Lib.hid (fun o => hx1.alloc hx1.size o)
    clear hb1 hx1 hblk hk0 hb0 HN
    generalize hg : w.heap.size = g at *
    have HG := Lib.hid hg; clear hg
    go_wp2_with fail
    refine bodyPost_ret (v := .tuple #[.string ⟨#[]⟩, .int .i64 3]) (by simp [results, Tryz.results7, go_sem]) rfl ⟨by rw [HR.out]; rfl, ?_⟩
    rw [HG.out]
    exact HX.out _
  | q6 h0 h1 h2 h3 h4 h hR =>
    have h3' := h3.symm
    have h4' := h4.symm
    subst h0; subst h1; subst h2; subst h3'; subst h4'
    have t1 : (!(bs xl).toList == (bs l).toList) = true := bs_neq h
    have HR := Lib.hid hR
    clear hR h
    go_enter Tryz.func7, Tryz.ntmps7
    go_wp2_with fail
    refine (HN.out _).mono ?_
    rintro e' w1 ⟨rfl, hb1⟩
    have hx1 := hb0.out.trans (hb1.mono (by simp))
    have hblk := hk0.out.below hb1 (by simp)
    have hlt := hblk.lt
    have hne : ¬ w.heap.size = w1.heap.size := by omega
    obtain ⟨⟨c0, c1, c2, c3, c4⟩, _⟩ := hblk.five
    have HX := Lib.hid (fun o => hx1.alloc hx1.size o)
    clear hb1 hx1 hblk hk0 hb0 HN
    generalize hg : w.heap.size = g at *
    have HG := Lib.hid hg; clear hg
    go_wp2_with fail
    refine bodyPost_ret (v := .tuple #[.string ⟨#[]⟩, .int .i64 3]) (by simp [results, Tryz.results7, go_sem]) rfl ⟨by rw [HR.out]; rfl, ?_⟩
    rw [HG.out]
    exact HX.out _
  | no h0 h1 h2 h3 h4 h5 hR =>
    have h3' := h3.symm
    have h4' := h4.symm
    have h5' := h5.symm
    clear h3 h4 h5
    subst h0; subst h1; subst h2; subst h3'; subst h4'; subst h5'
    have HR := Lib.hid hR
    clear hR
    go_enter Tryz.func7, Tryz.ntmps7
    go_wp2_with fail
    refine (HN.out _).mono ?_
    rintro e' w1 ⟨rfl, hb1⟩
    have hx1 := hb0.out.trans (hb1.mono (by simp))
    have hblk := hk0.out.below hb1 (by simp)
    have hlt := hblk.lt
    have hne : ¬ w.heap.size = w1.heap.size := by omega
    obtain ⟨⟨c0, c1, c2, c3, c4⟩, _⟩ := hblk.five
    have HX := Lib.hid (fun o => hx1.alloc hx1.size o)
    clear hb1 hx1 hblk hk0 hb0 HN
    generalize hg : w.heap.size = g at *
    have HG := Lib.hid hg; clear hg
    go_wp2_with fail
    refine bodyPost_ret (v := .tuple #[.string (bs X), .int .i64 0]) (by simp [results, Tryz.results7, go_sem]) rfl ⟨by rw [HR.out]; rfl, ?_⟩
    rw [HG.out]
    exact HX.out _

set_option maxRecDepth 100000 in
set_option maxHeartbeats 4000000 in
theorem rshow_bits  (a e n : Int) (l : List UInt8) (w : World) (X : List UInt8) (hlen : l.length < 20000) (hf : X ≠ []) (hX : (⟨#[35]⟩ : ByteArray) ++ bs l = bs X) (kk xa xe : Nat) (xn : Int) (xl : List UInt8) (pl er : Nat) (R : List UInt8 × Nat)
    (HN : Hid (∀ W, Calls Tryz.prog 19 #[.string (bs X), .int .i64 0] W fun e' w' => e' = .returned (.tuple #[.agg #[.int .u8 kk, .int .i64 xa, .int .i64 xe, .int .i64 xn, .string (bs xl)], .int .i64 pl, .int .i64 er]) ∧ Below W.heap.size W w'))
    (hC : Asked 9 n l X kk xa xe xn xl er R) :
    Calls Tryz.prog 7 #[.agg #[.int .u8 9, .int .i64 a, .int .i64 e, .int .i64 n, .string (bs l)]] w fun e' w' => e' = .returned (showVal R) ∧ Below w.heap.size w w' := by
  have hb0 : Hid (Below w.heap.size w (w.alloc (.cells #[.int .u8 9, .int .i64 a, .int .i64 e, .int .i64 n, .string (bs l)] 32))) := (Below.refl _ _).alloc (Nat.le_refl _) _
  have hk0 := Lib.hid (Blk.new w 32 #[.int .u8 9, .int .i64 a, .int .i64 e, .int .i64 n, .string (bs l)])
  have hxe := bs_full X hf
  have hz : ¬ 9223372036854775807 < 1 + (bs l).size := by rw [bs_size]; omega
  clear hf hlen
  cases hC with
  | q1 h hR =>
    have t1 : ((er : Int) != 0) = true := bne_iff_ne.2 (by omega)
    have t2 : ((er : Int) == 0) = false := beq_eq_false_iff_ne.2 (by omega)
    have HR := Lib.hid hR
    clear hR h
    go_enter Tryz.func7, Tryz.ntmps7
    go_wp2_with fail
    refine (HN.out _).mono ?_
    rintro e' w1 ⟨rfl, hb1⟩
    have hx1 := hb0.out.trans (hb1.mono (by simp))
    have hblk := hk0.out.below hb1 (by simp)
    have hlt := hblk.lt
    have hne : ¬ w.heap.size = w1.heap.size := by omega
    obtain ⟨⟨c0, c1, c2, c3, c4⟩, _⟩ := hblk.five
    have HX := Lib.hid (fun o => hx1.alloc hx1.size o)
    clear hb1 hx1 hblk hk0 hb0 HN
    generalize hg : w.heap.size = g at *
    have HG := Lib.hid hg; clear hg
    go_wp2_with fail
    refine bodyPost_ret (v := .tuple #[.string ⟨#[]⟩, .int .i64 3]) (by simp [results, Tryz.results7, go_sem]) rfl ⟨by rw [HR.out]; rfl, ?_⟩
    rw [HG.out]
    exact HX.out _
  | q2 h0 h hR =>
    subst h0
    have t1 : ((xa : Int) != 0) = true := bne_iff_ne.2 (by omega)
    have t2 : ((xa : Int) == 0) = false := beq_eq_false_iff_ne.2 (by omega)
    have HR := Lib.hid hR
    clear hR h
    go_enter Tryz.func7, Tryz.ntmps7
    go_wp2_with fail
    refine (HN.out _).mono ?_
    rintro e' w1 ⟨rfl, hb1⟩
    have hx1 := hb0.out.trans (hb1.mono (by simp))
    have hblk := hk0.out.below hb1 (by simp)
    have hlt := hblk.lt
    have hne : ¬ w.heap.size = w1.heap.size := by omega
    obtain ⟨⟨c0, c1, c2, c3, c4⟩, _⟩ := hblk.five
    have HX := Lib.hid (fun o => hx1.alloc hx1.size o)
    clear hb1 hx1 hblk hk0 hb0 HN
    generalize hg : w.heap.size = g at *
    have HG := Lib.hid hg; clear hg
    go_wp2_with fail
    refine bodyPost_ret (v := .tuple #[.string ⟨#[]⟩, .int .i64 3]) (by simp [results, Tryz.results7, go_sem]) rfl ⟨by rw [HR.out]; rfl, ?_⟩
    rw [HG.out]
    exact HX.out _
  | q3 h0 h1 h hR =>
    subst h0; subst h1
    have t1 : ((xe : Int) != ((bs X).size : Int)) = true := bne_iff_ne.2 (by omega)
    have t2 : ((xe : Int) == ((bs X).size : Int)) = false := beq_eq_false_iff_ne.2 (by omega)
    have HR := Lib.hid hR
    clear hR h
    go_enter Tryz.func7, Tryz.ntmps7
    go_wp2_with fail
    refine (HN.out _).mono ?_
    rintro e' w1 ⟨rfl, hb1⟩
    have hx1 := hb0.out.trans (hb1.mono (by simp))
    have hblk := hk0.out.below hb1 (by simp)
    have hlt := hblk.lt
    have hne : ¬ w.heap.size = w1.heap.size := by omega
    obtain ⟨⟨c0, c1, c2, c3, c4⟩, _⟩ := hblk.five
    have HX := Lib.hid (fun o => hx1.alloc hx1.size o)
    clear hb1 hx1 hblk hk0 hb0 HN
    generalize hg : w.heap.size = g at *
    have HG := Lib.hid hg; clear hg
    go_wp2_with fail
    refine bodyPost_ret (v := .tuple #[.string ⟨#[]⟩, .int .i64 3]) (by simp [results, Tryz.results7, go_sem]) rfl ⟨by rw [HR.out]; rfl, ?_⟩
    rw [HG.out]
    exact HX.out _
  | q4 h0 h1 h2 h hR =>
    subst h0; subst h1; subst h2
    have t1 : ((kk : Int) != 9) = true := bne_iff_ne.2 (by omega)
    have t2 : ((kk : Int) == 9) = false := beq_eq_false_iff_ne.2 (by omega)
    have t3 : ¬ (kk : Int) = 9 := by omega
    have HR := Lib.hid hR
    clear hR h
    go_enter Tryz.func7, Tryz.ntmps7
    go_wp2_with fail
    refine (HN.out _).mono ?_
    rintro e' w1 ⟨rfl, hb1⟩
    have hx1 := hb0.out.trans (hb1.mono (by simp))
    have hblk := hk0.out.below hb1 (by simp)
    have hlt := hblk.lt
    have hne : ¬ w.heap.size = w1.heap.size := by omega
    obtain ⟨⟨c0, c1, c2, c3, c4⟩, _⟩ := hblk.five
    have HX := Lib.hid (fun o => hx1.alloc hx1.size o)
    clear hb1 hx1 hblk hk0 hb0 HN
    generalize hg : w.heap.size = g at *
    have HG := Lib.hid hg; clear hg
    go_wp2_with fail
    refine bodyPost_ret (v := .tuple #[.string ⟨#[]⟩, .int .i64 3]) (by simp [results, Tryz.results7, go_sem]) rfl ⟨by rw [HR.out]; rfl, ?_⟩
    rw [HG.out]
    exact HX.out _
  | q5 h0 h1 h2 h3 h hR =>
    have h3' := h3.symm
    subst h0; subst h1; subst h2; subst h3'
    have t1 : (xn != n) = true := bne_iff_ne.2 h
    have t2 : (xn == n) = false := beq_eq_false_iff_ne.2 h
    have t3 : ¬ xn = n := h
    have HR := Lib.hid hR
    clear hR h
    go_enter Tryz.func7, Tryz.ntmps7
    go_wp2_with fail
    refine (HN.out _).mono ?_
    rintro e' w1 ⟨rfl, hb1⟩
    have hx1 := hb0.out.trans (hb1.mono (by simp))
    have hblk := hk0.out.below hb1 (by simp)
    have hlt := hblk.lt
    have hne : ¬ w.heap.size = w1.heap.size := by omega
    obtain ⟨⟨c0, c1, c2, c3, c4⟩, _⟩ := hblk.five
    have HX := Lib.hid (fun o => hx1.alloc hx1.size o)
    clear hb1 hx1 hblk hk0 hb0 HN
    generalize hg : w.heap.size = g at *
    have HG := Lib.hid hg; clear hg
    go_wp2_with fail
    refine bodyPost_ret (v := .tuple #[.string ⟨#[]⟩, .int .i64 3]) (by simp [results, Tryz.results7, go_sem]) rfl ⟨by rw [HR.out]; rfl, ?_⟩
    rw [HG.out]
    exact HX.out _
  | q6 h0 h1 h2 h3 h4 h hR =>
    have h3' := h3.symm
    have h4' := h4.symm
    subst h0; subst h1; subst h2; subst h3'; subst h4'
    have t1 : (!(bs xl).toList == (bs l).toList) = true := bs_neq h
    have HR := Lib.hid hR
    clear hR h
    go_enter Tryz.func7, Tryz.ntmps7
    go_wp2_with fail
    refine (HN.out _).mono ?_
    rintro e' w1 ⟨rfl, hb1⟩
    have hx1 := hb0.out.trans (hb1.mono (by simp))
    have hblk := hk0.out.below hb1 (by simp)
    have hlt := hblk.lt
    have hne : ¬ w.heap.size = w1.heap.size := by omega
    obtain ⟨⟨c0, c1, c2, c3, c4⟩, _⟩ := hblk.five
    have HX := Lib.hid (fun o => hx1.alloc hx1.size o)
    clear hb1 hx1 hblk hk0 hb0 HN
    generalize hg : w.heap.size = g at *
    have HG := Lib.hid hg; clear hg
    go_wp2_with fail
    refine bodyPost_ret (v := .tuple #[.string ⟨#[]⟩, .int .i64 3]) (by simp [results, Tryz.results7, go_sem]) rfl ⟨by rw [HR.out]; rfl, ?_⟩
    rw [HG.out]
    exact HX.out _
  | no h0 h1 h2 h3 h4 h5 hR =>
    have h3' := h3.symm
    have h4' := h4.symm
    have h5' := h5.symm
    clear h3 h4 h5
    subst h0; subst h1; subst h2; subst h3'; subst h4'; subst h5'
    have HR := Lib.hid hR
    clear hR
    go_enter Tryz.func7, Tryz.ntmps7
    go_wp2_with fail
    refine (HN.out _).mono ?_
    rintro e' w1 ⟨rfl, hb1⟩
    have hx1 := hb0.out.trans (hb1.mono (by simp))
    have hblk := hk0.out.below hb1 (by simp)
    have hlt := hblk.lt
    have hne : ¬ w.heap.size = w1.heap.size := by omega
    obtain ⟨⟨c0, c1, c2, c3, c4⟩, _⟩ := hblk.five
    have HX := Lib.hid (fun o => hx1.alloc hx1.size o)
    clear hb1 hx1 hblk hk0 hb0 HN
    generalize hg : w.heap.size = g at *
    have HG := Lib.hid hg; clear hg
    go_wp2_with fail
    refine bodyPost_ret (v := .tuple #[.string (bs X), .int .i64 0]) (by simp [results, Tryz.results7, go_sem]) rfl ⟨by rw [HR.out]; rfl, ?_⟩
    rw [HG.out]
    exact HX.out _

set_option maxRecDepth 100000 in
set_option maxHeartbeats 4000000 in
theorem rshow_num  (a e n : Int) (l : List UInt8) (w : World) (X : List UInt8) (q v : Nat) (neg : Bool) (hf : X ≠ [])
    (HOF : Hid (∀ W, Calls Tryz.prog 18 #[.int .i64 n] W (IntR W q neg v)))
    (HSH : Hid (∀ B c W, Num5 W B v → Calls Tryz.prog 17 #[.agg #[.bool neg, .slice B q c]] W fun e w' => e = .returned (.string (bs X)) ∧ Below W.heap.size W w')) (kk xa xe : Nat) (xn : Int) (xl : List UInt8) (pl er : Nat) (R : List UInt8 × Nat)
    (HN : Hid (∀ W, Calls Tryz.prog 19 #[.string (bs X), .int .i64 0] W fun e' w' => e' = .returned (.tuple #[.agg #[.int .u8 kk, .int .i64 xa, .int .i64 xe, .int .i64 xn, .string (bs xl)], .int .i64 pl, .int .i64 er]) ∧ Below W.heap.size W w'))
    (hC : Asked 8 n l X kk xa xe xn xl er R) :
    Calls Tryz.prog 7 #[.agg #[.int .u8 8, .int .i64 a, .int .i64 e, .int .i64 n, .string (bs l)]] w fun e' w' => e' = .returned (showVal R) ∧ Below w.heap.size w w' := by
  have hb0 : Hid (Below w.heap.size w (w.alloc (.cells #[.int .u8 8, .int .i64 a, .int .i64 e, .int .i64 n, .string (bs l)] 32))) := (Below.refl _ _).alloc (Nat.le_refl _) _
  have hk0 := Lib.hid (Blk.new w 32 #[.int .u8 8, .int .i64 a, .int .i64 e, .int .i64 n, .string (bs l)])
  have hxe := bs_full X hf
  clear hf
  cases hC with
  | q1 h hR =>
    have t1 : ((er : Int) != 0) = true := bne_iff_ne.2 (by omega)
    have t2 : ((er : Int) == 0) = false := beq_eq_false_iff_ne.2 (by omega)
    have HR := Lib.hid hR
    clear hR h
    go_enter Tryz.func7, Tryz.ntmps7
    go_wp2_with fail
    refine (HOF.out _).mono ?_
    rintro e' w5 ⟨B5, d5, rfl, hB5, hb5⟩
    have hblk5 := hk0.out.below hb5 (by simp)
    have hx5 := hb0.out.trans (hb5.mono (by simp))
    clear hb5
    go_wp2_with fail
    refine (HSH.out _ _ _ hB5).mono ?_
    rintro e' w6 ⟨rfl, hb6⟩
    have hblk6 := hblk5.below hb6 hblk5.lt
    have hx6 := hx5.trans (hb6.mono hx5.size)
    clear hb6 hblk5 hx5 hB5
    go_wp2_with fail
    refine (HN.out _).mono ?_
    rintro e' w1 ⟨rfl, hb1⟩
    have hx1 := hx6.trans (hb1.mono hx6.size)
    have hblk := hblk6.below hb1 hblk6.lt
    have hlt := hblk.lt
    have hne : ¬ w.heap.size = w1.heap.size := by omega
    obtain ⟨⟨c0, c1, c2, c3, c4⟩, _⟩ := hblk.five
    have HX := Lib.hid (fun o => hx1.alloc hx1.size o)
    clear hb1 hx1 hblk hk0 hb0 HN
    generalize hg : w.heap.size = g at *
    have HG := Lib.hid hg; clear hg
    go_wp2_with fail
    refine bodyPost_ret (v := .tuple #[.string ⟨#[]⟩, .int .i64 3]) (by simp [results, Tryz.results7, go_sem]) rfl ⟨by rw [HR.out]; rfl, ?_⟩
    rw [HG.out]
    exact HX.out _
  | q2 h0 h hR =>
    subst h0
    have t1 : ((xa : Int) != 0) = true := bne_iff_ne.2 (by omega)
    have t2 : ((xa : Int) == 0) = false := beq_eq_false_iff_ne.2 (by omega)
    have HR := Lib.hid hR
    clear hR h
    go_enter Tryz.func7, Tryz.ntmps7
    go_wp2_with fail
    refine (HOF.out _).mono ?_
    rintro e' w5 ⟨B5, d5, rfl, hB5, hb5⟩
    have hblk5 := hk0.out.below hb5 (by simp)
    have hx5 := hb0.out.trans (hb5.mono (by simp))
    clear hb5
    go_wp2_with fail
    refine (HSH.out _ _ _ hB5).mono ?_
    rintro e' w6 ⟨rfl, hb6⟩
    have hblk6 := hblk5.below hb6 hblk5.lt
    have hx6 := hx5.trans (hb6.mono hx5.size)
    clear hb6 hblk5 hx5 hB5
    go_wp2_with fail
    refine (HN.out _).mono ?_
    rintro e' w1 ⟨rfl, hb1⟩
    have hx1 := hx6.trans (hb1.mono hx6.size)
    have hblk := hblk6.below hb1 hblk6.lt
    have hlt := hblk.lt
    have hne : ¬ w.heap.size = w1.heap.size := by omega
    obtain ⟨⟨c0, c1, c2, c3, c4⟩, _⟩ := hblk.five
    have HX := Lib.hid (fun o => hx1.alloc hx1.size o)
    clear hb1 hx1 hblk hk0 hb0 HN
    generalize hg : w.heap.size = g at *
    have HG := Lib.hid hg; clear hg
    go_wp2_with fail
    refine bodyPost_ret (v := .tuple #[.string ⟨#[]⟩, .int .i64 3]) (by simp [results, Tryz.results7, go_sem]) rfl ⟨by rw [HR.out]; rfl, ?_⟩
    rw [HG.out]
    exact HX.out _
  | q3 h0 h1 h hR =>
    subst h0; subst h1
    have t1 : ((xe : Int) != ((bs X).size : Int)) = true := bne_iff_ne.2 (by omega)
    have t2 : ((xe : Int) == ((bs X).size : Int)) = false := beq_eq_false_iff_ne.2 (by omega)
    have HR := Lib.hid hR
    clear hR h
    go_enter Tryz.func7, Tryz.ntmps7
    go_wp2_with fail
    refine (HOF.out _).mono ?_
    rintro e' w5 ⟨B5, d5, rfl, hB5, hb5⟩
    have hblk5 := hk0.out.below hb5 (by simp)
    have hx5 := hb0.out.trans (hb5.mono (by simp))
    clear hb5
    go_wp2_with fail
    refine (HSH.out _ _ _ hB5).mono ?_
    rintro e' w6 ⟨rfl, hb6⟩
    have hblk6 := hblk5.below hb6 hblk5.lt
    have hx6 := hx5.trans (hb6.mono hx5.size)
    clear hb6 hblk5 hx5 hB5
    go_wp2_with fail
    refine (HN.out _).mono ?_
    rintro e' w1 ⟨rfl, hb1⟩
    have hx1 := hx6.trans (hb1.mono hx6.size)
    have hblk := hblk6.below hb1 hblk6.lt
    have hlt := hblk.lt
    have hne : ¬ w.heap.size = w1.heap.size := by omega
    obtain ⟨⟨c0, c1, c2, c3, c4⟩, _⟩ := hblk.five
    have HX := Lib.hid (fun o => hx1.alloc hx1.size o)
    clear hb1 hx1 hblk hk0 hb0 HN
    generalize hg : w.heap.size = g at *
    have HG := Lib.hid hg; clear hg
    go_wp2_with fail
    refine bodyPost_ret (v := .tuple #[.string ⟨#[]⟩, .int .i64 3]) (by simp [results, Tryz.results7, go_sem]) rfl ⟨by rw [HR.out]; rfl, ?_⟩
    rw [HG.out]
    exact HX.out _
  | q4 h0 h1 h2 h hR =>
    subst h0; subst h1; subst h2
    have t1 : ((kk : Int) != 8) = true := bne_iff_ne.2 (by omega)
    have t2 : ((kk : Int) == 8) = false := beq_eq_false_iff_ne.2 (by omega)
    have t3 : ¬ (kk : Int) = 8 := by omega
    have HR := Lib.hid hR
    clear hR h
    go_enter Tryz.func7, Tryz.ntmps7
    go_wp2_with fail
    refine (HOF.out _).mono ?_
    rintro e' w5 ⟨B5, d5, rfl, hB5, hb5⟩
    have hblk5 := hk0.out.below hb5 (by simp)
    have hx5 := hb0.out.trans (hb5.mono (by simp))
    clear hb5
    go_wp2_with fail
    refine (HSH.out _ _ _ hB5).mono ?_
    rintro e' w6 ⟨rfl, hb6⟩
    have hblk6 := hblk5.below hb6 hblk5.lt
    have hx6 := hx5.trans (hb6.mono hx5.size)
    clear hb6 hblk5 hx5 hB5
    go_wp2_with fail
    refine (HN.out _).mono ?_
    rintro e' w1 ⟨rfl, hb1⟩
    have hx1 := hx6.trans (hb1.mono hx6.size)
    have hblk := hblk6.below hb1 hblk6.lt
    have hlt := hblk.lt
    have hne : ¬ w.heap.size = w1.heap.size := by omega
    obtain ⟨⟨c0, c1, c2, c3, c4⟩, _⟩ := hblk.five
    have HX := Lib.hid (fun o => hx1.alloc hx1.size o)
    clear hb1 hx1 hblk hk0 hb0 HN
    generalize hg : w.heap.size = g at *
    have HG := Lib.hid hg; clear hg
    go_wp2_with fail
    refine bodyPost_ret (v := .tuple #[.string ⟨#[]⟩, .int .i64 3]) (by simp [results, Tryz.results7, go_sem]) rfl ⟨by rw [HR.out]; rfl, ?_⟩
    rw [HG.out]
    exact HX.out _
  | q5 h0 h1 h2 h3 h hR =>
    have h3' := h3.symm
    subst h0; subst h1; subst h2; subst h3'
    have t1 : (xn != n) = true := bne_iff_ne.2 h
    have t2 : (xn == n) = false := beq_eq_false_iff_ne.2 h
    have t3 : ¬ xn = n := h
    have HR := Lib.hid hR
    clear hR h
    go_enter Tryz.func7, Tryz.ntmps7
    go_wp2_with fail
    refine (HOF.out _).mono ?_
    rintro e' w5 ⟨B5, d5, rfl, hB5, hb5⟩
    have hblk5 := hk0.out.below hb5 (by simp)
    have hx5 := hb0.out.trans (hb5.mono (by simp))
    clear hb5
    go_wp2_with fail
    refine (HSH.out _ _ _ hB5).mono ?_
    rintro e' w6 ⟨rfl, hb6⟩
    have hblk6 := hblk5.below hb6 hblk5.lt
    have hx6 := hx5.trans (hb6.mono hx5.size)
    clear hb6 hblk5 hx5 hB5
    go_wp2_with fail
    refine (HN.out _).mono ?_
    rintro e' w1 ⟨rfl, hb1⟩
    have hx1 := hx6.trans (hb1.mono hx6.size)
    have hblk := hblk6.below hb1 hblk6.lt
    have hlt := hblk.lt
    have hne : ¬ w.heap.size = w1.heap.size := by omega
    obtain ⟨⟨c0, c1, c2, c3, c4⟩, _⟩ := hblk.five
    have HX := Lib.hid (fun o => hx1.alloc hx1.size o)
    clear hb1 hx1 hblk hk0 hb0 HN
    generalize hg : w.heap.size = g at *
    have HG := Lib.hid hg; clear hg
    go_wp2_with fail
    refine bodyPost_ret (v := .tuple #[.string ⟨#[]⟩, .int .i64 3]) (by simp [results, Tryz.results7, go_sem]) rfl ⟨by rw [HR.out]; rfl, ?_⟩
    rw [HG.out]
    exact HX.out _
  | q6 h0 h1 h2 h3 h4 h hR =>
    have h3' := h3.symm
    have h4' := h4.symm
    subst h0; subst h1; subst h2; subst h3'; subst h4'
    have t1 : (!(bs xl).toList == (bs l).toList) = true := bs_neq h
    have HR := Lib.hid hR
    clear hR h
    go_enter Tryz.func7, Tryz.ntmps7
    go_wp2_with fail
    refine (HOF.out _).mono ?_
    rintro e' w5 ⟨B5, d5, rfl, hB5, hb5⟩
    have hblk5 := hk0.out.below hb5 (by simp)
    have hx5 := hb0.out.trans (hb5.mono (by simp))
    clear hb5
    go_wp2_with fail
    refine (HSH.out _ _ _ hB5).mono ?_
    rintro e' w6 ⟨rfl, hb6⟩
    have hblk6 := hblk5.below hb6 hblk5.lt
    have hx6 := hx5.trans (hb6.mono hx5.size)
    clear hb6 hblk5 hx5 hB5
    go_wp2_with fail
    refine (HN.out _).mono ?_
    rintro e' w1 ⟨rfl, hb1⟩
    have hx1 := hx6.trans (hb1.mono hx6.size)
    have hblk := hblk6.below hb1 hblk6.lt
    have hlt := hblk.lt
    have hne : ¬ w.heap.size = w1.heap.size := by omega
    obtain ⟨⟨c0, c1, c2, c3, c4⟩, _⟩ := hblk.five
    have HX := Lib.hid (fun o => hx1.alloc hx1.size o)
    clear hb1 hx1 hblk hk0 hb0 HN
    generalize hg : w.heap.size = g at *
    have HG := Lib.hid hg; clear hg
    go_wp2_with fail
    refine bodyPost_ret (v := .tuple #[.string ⟨#[]⟩, .int .i64 3]) (by simp [results, Tryz.results7, go_sem]) rfl ⟨by rw [HR.out]; rfl, ?_⟩
    rw [HG.out]
    exact HX.out _
  | no h0 h1 h2 h3 h4 h5 hR =>
    have h3' := h3.symm
    have h4' := h4.symm
    have h5' := h5.symm
    clear h3 h4 h5
    subst h0; subst h1; subst h2; subst h3'; subst h4'; subst h5'
    have HR := Lib.hid hR
    clear hR
    go_enter Tryz.func7, Tryz.ntmps7
    go_wp2_with fail
    refine (HOF.out _).mono ?_
    rintro e' w5 ⟨B5, d5, rfl, hB5, hb5⟩
    have hblk5 := hk0.out.below hb5 (by simp)
    have hx5 := hb0.out.trans (hb5.mono (by simp))
    clear hb5
    go_wp2_with fail
    refine (HSH.out _ _ _ hB5).mono ?_
    rintro e' w6 ⟨rfl, hb6⟩
    have hblk6 := hblk5.below hb6 hblk5.lt
    have hx6 := hx5.trans (hb6.mono hx5.size)
    clear hb6 hblk5 hx5 hB5
    go_wp2_with fail
    refine (HN.out _).mono ?_
    rintro e' w1 ⟨rfl, hb1⟩
    have hx1 := hx6.trans (hb1.mono hx6.size)
    have hblk := hblk6.below hb1 hblk6.lt
    have hlt := hblk.lt
    have hne : ¬ w.heap.size = w1.heap.size := by omega
    obtain ⟨⟨c0, c1, c2, c3, c4⟩, _⟩ := hblk.five
    have HX := Lib.hid (fun o => hx1.alloc hx1.size o)
    clear hb1 hx1 hblk hk0 hb0 HN
    generalize hg : w.heap.size = g at *
    have HG := Lib.hid hg; clear hg
    go_wp2_with fail
    refine bodyPost_ret (v := .tuple #[.string (bs X), .int .i64 0]) (by simp [results, Tryz.results7, go_sem]) rfl ⟨by rw [HR.out]; rfl, ?_⟩
    rw [HG.out]
    exact HX.out _
set_option maxRecDepth 100000 in
set_option maxHeartbeats 1000000 in
theorem rshow_none (k : Nat) (a e n : Int) (l : List UInt8) (w : World) (hk : k = 0 ∨ 10 ≤ k) :
    Calls Tryz.prog 7 #[.agg #[.int .u8 k, .int .i64 a, .int .i64 e, .int .i64 n, .string (bs l)]] w fun e' w' => e' = .returned (showVal ([], 3)) ∧ Below w.heap.size w w' := by
  have b0 : Hid (∀ o, Below w.heap.size w (w.alloc o)) := fun o => (Below.refl w.heap.size w).alloc (Nat.le_refl _) o
  have k7 : ((k : Int) == 7) = false := beq_eq_false_iff_ne.2 (by omega)
  have k8 : ((k : Int) == 8) = false := beq_eq_false_iff_ne.2 (by omega)
  have k9 : ((k : Int) == 9) = false := beq_eq_false_iff_ne.2 (by omega)
  rcases hk with hk | hk
  · have a1 : (k : Int) < 1 := by omega
    go_enter Tryz.func7, Tryz.ntmps7
    go_wp2_with fail
    refine bodyPost_ret (v := .tuple #[.string ⟨#[]⟩, .int .i64 3]) (by simp [results, Tryz.results7, go_sem]) rfl ⟨rfl, b0.out _⟩
  · have a1 : (1 : Int) ≤ (k : Int) := by omega
    have a2 : (6 : Int) < (k : Int) := by omega
    go_enter Tryz.func7, Tryz.ntmps7
    go_wp2_with fail
    refine bodyPost_ret (v := .tuple #[.string ⟨#[]⟩, .int .i64 3]) (by simp [results, Tryz.results7, go_sem]) rfl ⟨rfl, b0.out _⟩

set_option maxRecDepth 100000 in
set_option maxHeartbeats 1000000 in
theorem rshow_empty (a e n : Int) (w : World) :
    Calls Tryz.prog 7 #[.agg #[.int .u8 7, .int .i64 a, .int .i64 e, .int .i64 n, .string (bs [])]] w fun e' w' => e' = .returned (showVal ([], 3)) ∧ Below w.heap.size w w' := by
  have b0 : Hid (∀ o, Below w.heap.size w (w.alloc o)) := fun o => (Below.refl w.heap.size w).alloc (Nat.le_refl _) o
  have hle := bs_empty [] rfl
  go_enter Tryz.func7, Tryz.ntmps7
  go_wp2_with fail
  refine bodyPost_ret (v := .tuple #[.string ⟨#[]⟩, .int .i64 3]) (by simp [results, Tryz.results7, go_sem]) rfl ⟨rfl, b0.out _⟩

theorem rshow_any (k : Nat) (a e n : Int) (l : List UInt8) (w : World) (hlen : l.length < 20000) (h0 : -9223372036854775808 ≤ n) (h1 : n ≤ 9223372036854775807) :
    Calls Tryz.prog 7 #[argMark k a e n l] w fun e' w' => e' = .returned (showVal (lexShow k n l)) ∧ Below w.heap.size w w' := by
  rw [← refShow_eq k n l h0 h1]
  unfold argMark
  have hN : ∀ X : List UInt8, X.length ≤ 20000 → ∀ kk xa xe xn xl pl er, lexNext X 0 = ((kk, xa, xe, xn, xl), pl, er) → Hid (∀ W, Calls Tryz.prog 19 #[.string (bs X), .int .i64 0] W fun e' w' => e' = .returned (.tuple #[.agg #[.int .u8 kk, .int .i64 xa, .int .i64 xe, .int .i64 xn, .string (bs xl)], .int .i64 pl, .int .i64 er]) ∧ Below W.heap.size W w') := by
    intro X hX kk xa xe xn xl pl er h W
    have := rnext_any (bs X) 0 W (by rw [bs_size]; exact hX)
    rw [bs_list, h] at this
    exact this
  by_cases hk : k = 0 ∨ 10 ≤ k
  · have hs : refS k n l = [] := by rw [refS, if_neg (by omega), if_neg (by omega), if_neg (by omega), if_neg (by omega)]
    have : refShow k n l = ([], 3) := by rw [refShow, if_pos hs]
    rw [this]
    exact rshow_none k a e n l w hk
  by_cases h6 : k ≤ 6
  · have hs : refS k n l = (brList.drop (k - 1)).take 1 := by rw [refS, if_pos ⟨by omega, h6⟩]
    have hf := br_full k h6 (by omega)
    have hx := br_extract k (by omega) h6
    have hl1 : ((brList.drop (k - 1)).take 1).length ≤ 20000 := by rw [List.length_take]; omega
    generalize (brList.drop (k - 1)).take 1 = X at *
    rcases hq : lexNext X 0 with ⟨⟨kk, xa, xe, xn, xl⟩, pl, er⟩
    exact rshow_br k a e n l w X (by omega) (by omega) hf hx kk xa xe xn xl pl er _ (hN X hl1 _ _ _ _ _ _ _ hq) (asked_of hs hf hq)
  rcases (by omega : k = 7 ∨ k = 8 ∨ k = 9) with rfl | rfl | rfl
  · by_cases hl : l = []
    · subst hl
      have : refShow 7 n [] = ([], 3) := rfl
      rw [this]
      exact rshow_empty a e n w
    · rcases hq : lexNext l 0 with ⟨⟨kk, xa, xe, xn, xl⟩, pl, er⟩
      exact rshow_word a e n l w hl kk xa xe xn xl pl er _ (hN l (by omega) _ _ _ _ _ _ _ hq) (asked_of rfl hl hq)
  · have hs : refS 8 n l = Lib.itoa n := rfl
    have hf := itoa_full n
    have hil : (Lib.itoa n).length ≤ 20000 := Nat.le_trans (itoa_len n h0 h1) (by decide)
    rcases hq : lexNext (Lib.itoa n) 0 with ⟨⟨kk, xa, xe, xn, xl⟩, pl, er⟩
    have hA := asked_of hs hf hq
    have hNN := hN _ hil _ _ _ _ _ _ _ hq
    by_cases hn : n < 0
    · obtain ⟨v, hv⟩ : ∃ v : Nat, n = -(v : Int) := ⟨n.natAbs, by omega⟩
      have hi := itoa_neg n v hv (by omega)
      have hv4 : v < 65536 ^ 4 := Nat.lt_of_le_of_lt (show v ≤ 9223372036854775808 by omega) (by decide)
      exact rshow_num a e n l w (Lib.itoa n) _ v true hf (Lib.hid fun W => iof_neg n v hv W (by omega) (by omega) _ rfl) (Lib.hid fun B c W h => rshow5_any true v _ B c W h rfl hv4 (fun _ => by omega) _ hi.symm) kk xa xe xn xl pl er _ hNN hA
    · obtain ⟨v, rfl⟩ : ∃ v : Nat, n = (v : Int) := ⟨n.toNat, by omega⟩
      have hi := itoa_pos v
      have hv4 : v < 65536 ^ 4 := Nat.lt_of_le_of_lt (show v ≤ 9223372036854775807 by omega) (by decide)
      exact rshow_num a e v l w (Lib.itoa v) _ v false hf (Lib.hid fun W => iof_pos v W (by omega) _ rfl) (Lib.hid fun B c W h => rshow5_any false v _ B c W h rfl hv4 (fun h => by cases h) _ hi.symm) kk xa xe xn xl pl er _ hNN hA
  · have hs : refS 9 n l = 35 :: l := rfl
    rcases hq : lexNext (35 :: l) 0 with ⟨⟨kk, xa, xe, xn, xl⟩, pl, er⟩
    exact rshow_bits a e n l w (35 :: l) hlen (List.cons_ne_nil _ _) (bs_append [35] l) kk xa xe xn xl pl er _ (hN _ (by rw [List.length_cons]; omega) _ _ _ _ _ _ _ hq) (asked_of hs (List.cons_ne_nil _ _) hq)
end Go.Proofs.YtckmhbgpaiocbaaGreatDoor
