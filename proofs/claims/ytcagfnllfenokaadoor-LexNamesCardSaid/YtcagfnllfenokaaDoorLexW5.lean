/- The walk of lex.Show. -/
import Derived.Test.YtcagfnllfenokaaDoorLexW4
import Derived.Test.YtcagfnllfenokaaDoorLexS
import Derived.Lib.AppendIntMem
namespace Go.Proofs.YtcagfnllfenokaaDoor
open Go.RowKit

def showVal (x : List UInt8 × Nat) : Value := .tuple #[.string (bs x.1), .int .i64 x.2]
def argMark (k : Nat) (a e n : Int) (l : List UInt8) : Value := .agg #[.int .u8 k, .int .i64 a, .int .i64 e, .int .i64 n, .string (bs l)]
/-- What Show does with a run. -/
def ShowAt (k : Nat) (a e n : Int) (l : List UInt8) (w : World) : Prop :=
  Calls Tryd.prog 8 #[argMark k a e n l] w fun e' w' => e' = .returned (showVal (lexShow k n l)) ∧ Below w.heap.size w w'
theorem bs_empty (l : List UInt8) (h : l = []) : (bs l).toList.isEmpty = true := by rw [Lib.toList_data, bs_list, h]; rfl
theorem bs_full (l : List UInt8) (h : l ≠ []) : (bs l).toList.isEmpty = false := by rw [Lib.toList_data, bs_list]; cases l; exact absurd rfl h; rfl
theorem br_extract (k : Nat) (h1 : 1 ≤ k) (h6 : k ≤ 6) : (⟨#[40, 41, 91, 93, 60, 62]⟩ : ByteArray).extract (k - 1) k = bs ((brList.drop (k - 1)).take 1) := by
  rw [bs_extract, show k - (k - 1) = 1 by omega]; rfl
theorem br_full (k : Nat) (h6 : k ≤ 6) (h1 : 1 ≤ k) : (brList.drop (k - 1)).take 1 ≠ [] := by
  intro e
  have := congrArg List.length e
  simp [brList] at this
  omega

set_option maxRecDepth 100000 in
set_option maxHeartbeats 1000000 in
theorem show_br (k : Nat) (a e n : Int) (l : List UInt8) (w : World) (h1 : 1 ≤ k) (h6 : k ≤ 6) : ShowAt k a e n l w := by
  have b0 : ∀ o, Below w.heap.size w (w.alloc o) := fun o => (Below.refl w.heap.size w).alloc (Nat.le_refl _) o
  have HB0 := Lib.hid b0; clear b0
  unfold ShowAt argMark
  have a1 : (1 : Int) ≤ (k : Int) := by omega
  have a2 : (k : Int) ≤ 6 := by omega
  have k7 : ((k : Int) != 7) = true := bne_iff_ne.2 (by omega)
  have k8 : ((k : Int) != 8) = true := bne_iff_ne.2 (by omega)
  have k9 : ((k : Int) != 9) = true := bne_iff_ne.2 (by omega)
  have hx := br_extract k h1 h6
  have hf := br_full k h6 h1
  have hr : showRun k n l = (brList.drop (k - 1)).take 1 := by rw [showRun, if_pos ⟨h1, h6⟩]
  generalize (brList.drop (k - 1)).take 1 = X at *
  have hxe := bs_full X hf
  by_cases hn : n = 0
  · have n1 : (n != 0) = false := by simp [hn]
    have n2 : (n == 0) = true := by simp [hn]
    by_cases hl : l = []
    · have hle := bs_empty l hl
      have hs : lexShow k n l = (X, 0) := by rw [lexShow, hr, if_neg (by simp [hf, hn, hl])]
      have HE := Lib.hid hs; clear hs hr hf hl hn
      go_enter Tryd.func8, Tryd.ntmps8
      go_wp2_with fail
      refine bodyPost_ret (v := .tuple #[.string (bs X), .int .i64 0]) (by simp [results, Tryd.results8, go_sem]) rfl ⟨by rw [HE.out]; rfl, HB0.out _⟩
    · have hle := bs_full l hl
      have hs : lexShow k n l = ([], 3) := by rw [lexShow, if_pos (by right; right; exact ⟨by omega, by omega, hl⟩)]
      have HE := Lib.hid hs; clear hs hr hf hl hn
      go_enter Tryd.func8, Tryd.ntmps8
      go_wp2_with fail
      refine bodyPost_ret (v := .tuple #[.string ⟨#[]⟩, .int .i64 3]) (by simp [results, Tryd.results8, go_sem]) rfl ⟨by rw [HE.out]; rfl, HB0.out _⟩
  · have n1 : (n != 0) = true := by simp [hn]
    have n2 : (n == 0) = false := by simp [hn]
    have hs : lexShow k n l = ([], 3) := by rw [lexShow, if_pos (by right; left; exact ⟨by omega, hn⟩)]
    have HE := Lib.hid hs; clear hs hr hf hn
    go_enter Tryd.func8, Tryd.ntmps8
    go_wp2_with fail
    refine bodyPost_ret (v := .tuple #[.string ⟨#[]⟩, .int .i64 3]) (by simp [results, Tryd.results8, go_sem]) rfl ⟨by rw [HE.out]; rfl, HB0.out _⟩

set_option maxRecDepth 100000 in
set_option maxHeartbeats 1000000 in
theorem show_word (a e n : Int) (l : List UInt8) (w : World) (hlen : l.length ≤ 1048576) : ShowAt 7 a e n l w := by
  have b0 : ∀ o, Below w.heap.size w (w.alloc o) := fun o => (Below.refl w.heap.size w).alloc (Nat.le_refl _) o
  have HB0 := Lib.hid b0; clear b0
  unfold ShowAt argMark
  have hL : ∀ W, _ := fun W => letters_any (bs l) W (by rw [bs_size]; unfold maxLen; omega)
  rw [bs_list] at hL
  have hr : showRun 7 n l = if lettersB l = true then l else [] := rfl
  by_cases hb : lettersB l = true
  · rw [if_pos hb] at hr
    rw [hb] at hL
    have hl : l ≠ [] := by intro e; rw [e] at hb; exact absurd hb (by decide)
    have hle := bs_full l hl
    have HL := Lib.hid hL; clear hL
    by_cases hn : n = 0
    · have n1 : (n != 0) = false := by simp [hn]
      have n2 : (n == 0) = true := by simp [hn]
      have hs : lexShow 7 n l = (l, 0) := by rw [lexShow, hr, if_neg (by simp [hl, hn])]
      have HE := Lib.hid hs; clear hs hr hl hn hb
      go_enter Tryd.func8, Tryd.ntmps8
      go_wp2_with fail
      refine (HL.out _).mono ?_
      rintro e' w' ⟨rfl, hw⟩
      subst hw
      go_wp2_with fail
      refine bodyPost_ret (v := .tuple #[.string (bs l), .int .i64 0]) (by simp [results, Tryd.results8, go_sem]) rfl ⟨by rw [HE.out]; rfl, HB0.out _⟩
    · have n1 : (n != 0) = true := by simp [hn]
      have n2 : (n == 0) = false := by simp [hn]
      have hs : lexShow 7 n l = ([], 3) := by rw [lexShow, if_pos (by right; left; exact ⟨by decide, hn⟩)]
      have HE := Lib.hid hs; clear hs hr hl hn hb
      go_enter Tryd.func8, Tryd.ntmps8
      go_wp2_with fail
      refine (HL.out _).mono ?_
      rintro e' w' ⟨rfl, hw⟩
      subst hw
      go_wp2_with fail
      refine bodyPost_ret (v := .tuple #[.string ⟨#[]⟩, .int .i64 3]) (by simp [results, Tryd.results8, go_sem]) rfl ⟨by rw [HE.out]; rfl, HB0.out _⟩
  · have hb' : lettersB l = false := by simpa using hb
    rw [if_neg hb] at hr
    rw [hb'] at hL
    have HL := Lib.hid hL; clear hL
    have hs : lexShow 7 n l = ([], 3) := by rw [lexShow, if_pos (.inl hr)]
    have HE := Lib.hid hs; clear hs hr hb hb'
    go_enter Tryd.func8, Tryd.ntmps8
    go_wp2_with fail
    refine (HL.out _).mono ?_
    rintro e' w' ⟨rfl, hw⟩
    subst hw
    go_wp2_with fail
    refine bodyPost_ret (v := .tuple #[.string ⟨#[]⟩, .int .i64 3]) (by simp [results, Tryd.results8, go_sem]) rfl ⟨by rw [HE.out]; rfl, HB0.out _⟩

theorem dec_full (u : Nat) : Lib.decDigits u ≠ [] := by
  unfold Lib.decDigits
  split <;> simp
theorem itoa_full (n : Int) : Lib.itoa n ≠ [] := by
  unfold Lib.itoa
  split
  · exact List.cons_ne_nil _ _
  · exact dec_full _

set_option maxRecDepth 100000 in
set_option maxHeartbeats 1000000 in
theorem show_num (a e n : Int) (l : List UInt8) (w : World) (h0 : -9223372036854775808 ≤ n) (h1 : n ≤ 9223372036854775807) (hv : Env w) : ShowAt 8 a e n l w := by
  have b0 : ∀ o, Below w.heap.size w (w.alloc o) := fun o => (Below.refl w.heap.size w).alloc (Nat.le_refl _) o
  have HB0 := Lib.hid b0; clear b0
  unfold ShowAt argMark
  have hF : ∀ W, Env W → Calls Tryd.prog 16 #[.int .i64 n, .int .i64 10] W fun e w' => e = .returned (.string (bs (Lib.itoa n))) ∧ Below W.heap.size W w' := fun W h => by
    refine (Tryd.strconv_FormatInt_10 n h0 h1 W h.tab).mono ?_
    rintro e w' ⟨rfl, k, os, rfl⟩
    exact ⟨rfl, Lib.below_grow _ _ (Nat.le_refl _) _ _⟩
  have hr : showRun 8 n l = Lib.itoa n := rfl
  have hx := itoa_full n
  generalize Lib.itoa n = X at *
  have hxe := bs_full X hx
  have HF := Lib.hid hF; clear hF
  by_cases hl : l = []
  · have hle := bs_empty l hl
    have hs : lexShow 8 n l = (X, 0) := by rw [lexShow, hr, if_neg (by simp [hx, hl])]
    have HE := Lib.hid hs; clear hs hr hx hl
    go_enter Tryd.func8, Tryd.ntmps8
    go_wp2_with fail
    refine (HF.out _ (hv.alloc _)).mono ?_
    rintro e' w' ⟨rfl, hb⟩
    have hB := (Blk.new w 30 #[.int .u8 8, .int .i64 a, .int .i64 e, .int .i64 n, .string (bs l)]).below hb (by simp)
    have hx := (HB0.out (.cells #[.int .u8 8, .int .i64 a, .int .i64 e, .int .i64 n, .string (bs l)] 30)).trans (hb.mono (by simp))
    clear hb
    have HX := Lib.hid hx; clear hx
    obtain ⟨⟨c0, c1, c2, c3, c4⟩, f0, f1, f2, f3, f4⟩ := hB.five
    generalize hg : w.heap.size = g at *
    have HG := Lib.hid hg; clear hg
    go_wp2_with fail
    refine bodyPost_ret (v := .tuple #[.string (bs X), .int .i64 0]) (by simp [results, Tryd.results8, go_sem]) rfl ⟨by rw [HE.out]; rfl, by rw [HG.out]; exact HX.out⟩
  · have hle := bs_full l hl
    have hs : lexShow 8 n l = ([], 3) := by rw [lexShow, if_pos (by right; right; exact ⟨by decide, by decide, hl⟩)]
    have HE := Lib.hid hs; clear hs hr hx hl
    go_enter Tryd.func8, Tryd.ntmps8
    go_wp2_with fail
    refine (HF.out _ (hv.alloc _)).mono ?_
    rintro e' w' ⟨rfl, hb⟩
    have hB := (Blk.new w 30 #[.int .u8 8, .int .i64 a, .int .i64 e, .int .i64 n, .string (bs l)]).below hb (by simp)
    have hx := (HB0.out (.cells #[.int .u8 8, .int .i64 a, .int .i64 e, .int .i64 n, .string (bs l)] 30)).trans (hb.mono (by simp))
    clear hb
    have HX := Lib.hid hx; clear hx
    obtain ⟨⟨c0, c1, c2, c3, c4⟩, f0, f1, f2, f3, f4⟩ := hB.five
    generalize hg : w.heap.size = g at *
    have HG := Lib.hid hg; clear hg
    go_wp2_with fail
    refine bodyPost_ret (v := .tuple #[.string ⟨#[]⟩, .int .i64 3]) (by simp [results, Tryd.results8, go_sem]) rfl ⟨by rw [HE.out]; rfl, by rw [HG.out]; exact HX.out⟩

set_option maxRecDepth 100000 in
set_option maxHeartbeats 1000000 in
theorem show_bits (a e n : Int) (l : List UInt8) (w : World) (hlen : l.length ≤ 1048576) : ShowAt 9 a e n l w := by
  have b0 : ∀ o, Below w.heap.size w (w.alloc o) := fun o => (Below.refl w.heap.size w).alloc (Nat.le_refl _) o
  have HB0 := Lib.hid b0; clear b0
  unfold ShowAt argMark
  have hL : ∀ W, _ := fun W => is_any (bs l) W (by rw [bs_size]; unfold maxLen; omega)
  rw [bs_list] at hL
  have hr : showRun 9 n l = if isB l = true then 35 :: l else [] := rfl
  by_cases hb : isB l = true
  · rw [if_pos hb] at hr
    rw [hb] at hL
    have hX : (⟨#[35]⟩ : ByteArray) ++ bs l = bs (35 :: l) := bs_append [35] l
    have hle := bs_full (35 :: l) (List.cons_ne_nil _ _)
    have HL := Lib.hid hL; clear hL
    by_cases hn : n = 0
    · have n1 : (n != 0) = false := by simp [hn]
      have n2 : (n == 0) = true := by simp [hn]
      have hs : lexShow 9 n l = (35 :: l, 0) := by rw [lexShow, hr, if_neg (by simp [hn])]
      have HE := Lib.hid hs; clear hs hr hn hb
      have hz : ¬ 9223372036854775807 < 1 + (bs l).size := by rw [bs_size]; omega
      generalize (35 :: l) = X at *
      go_enter Tryd.func8, Tryd.ntmps8
      go_wp2_with fail
      refine (HL.out _).mono ?_
      rintro e' w' ⟨rfl, hw⟩
      subst hw
      go_wp2_with fail
      refine bodyPost_ret (v := .tuple #[.string (bs X), .int .i64 0]) (by simp [results, Tryd.results8, go_sem]) rfl ⟨by rw [HE.out]; rfl, HB0.out _⟩
    · have n1 : (n != 0) = true := by simp [hn]
      have n2 : (n == 0) = false := by simp [hn]
      have hs : lexShow 9 n l = ([], 3) := by rw [lexShow, if_pos (by right; left; exact ⟨by decide, hn⟩)]
      have HE := Lib.hid hs; clear hs hr hn hb
      have hz : ¬ 9223372036854775807 < 1 + (bs l).size := by rw [bs_size]; omega
      generalize (35 :: l) = X at *
      go_enter Tryd.func8, Tryd.ntmps8
      go_wp2_with fail
      refine (HL.out _).mono ?_
      rintro e' w' ⟨rfl, hw⟩
      subst hw
      go_wp2_with fail
      refine bodyPost_ret (v := .tuple #[.string ⟨#[]⟩, .int .i64 3]) (by simp [results, Tryd.results8, go_sem]) rfl ⟨by rw [HE.out]; rfl, HB0.out _⟩
  · have hb' : isB l = false := by simpa using hb
    rw [if_neg hb] at hr
    rw [hb'] at hL
    have HL := Lib.hid hL; clear hL
    have hs : lexShow 9 n l = ([], 3) := by rw [lexShow, if_pos (.inl hr)]
    have HE := Lib.hid hs; clear hs hr hb hb'
    go_enter Tryd.func8, Tryd.ntmps8
    go_wp2_with fail
    refine (HL.out _).mono ?_
    rintro e' w' ⟨rfl, hw⟩
    subst hw
    go_wp2_with fail
    refine bodyPost_ret (v := .tuple #[.string ⟨#[]⟩, .int .i64 3]) (by simp [results, Tryd.results8, go_sem]) rfl ⟨by rw [HE.out]; rfl, HB0.out _⟩

set_option maxRecDepth 100000 in
set_option maxHeartbeats 1000000 in
theorem show_other (k : Nat) (a e n : Int) (l : List UInt8) (w : World) (hk : k = 0 ∨ 10 ≤ k) : ShowAt k a e n l w := by
  have b0 : ∀ o, Below w.heap.size w (w.alloc o) := fun o => (Below.refl w.heap.size w).alloc (Nat.le_refl _) o
  have HB0 := Lib.hid b0; clear b0
  unfold ShowAt argMark
  have hr : showRun k n l = [] := by rw [showRun, if_neg (by omega), if_neg (by omega), if_neg (by omega), if_neg (by omega)]
  have hs : lexShow k n l = ([], 3) := by rw [lexShow, if_pos (.inl hr)]
  have HE := Lib.hid hs; clear hs hr
  have k7 : ((k : Int) == 7) = false := beq_eq_false_iff_ne.2 (by omega)
  have k8 : ((k : Int) == 8) = false := beq_eq_false_iff_ne.2 (by omega)
  have k9 : ((k : Int) == 9) = false := beq_eq_false_iff_ne.2 (by omega)
  rcases hk with hk | hk
  · have a1 : (k : Int) < 1 := by omega
    go_enter Tryd.func8, Tryd.ntmps8
    go_wp2_with fail
    refine bodyPost_ret (v := .tuple #[.string ⟨#[]⟩, .int .i64 3]) (by simp [results, Tryd.results8, go_sem]) rfl ⟨by rw [HE.out]; rfl, HB0.out _⟩
  · have a1 : (1 : Int) ≤ (k : Int) := by omega
    have a2 : (6 : Int) < (k : Int) := by omega
    go_enter Tryd.func8, Tryd.ntmps8
    go_wp2_with fail
    refine bodyPost_ret (v := .tuple #[.string ⟨#[]⟩, .int .i64 3]) (by simp [results, Tryd.results8, go_sem]) rfl ⟨by rw [HE.out]; rfl, HB0.out _⟩

theorem show_any (k : Nat) (a e n : Int) (l : List UInt8) (w : World) (hlen : l.length ≤ 1048576) (h0 : -9223372036854775808 ≤ n) (h1 : n ≤ 9223372036854775807) (hv : Env w) : ShowAt k a e n l w := by
  by_cases hk : k = 0 ∨ 10 ≤ k
  · exact show_other k a e n l w hk
  · by_cases h6 : k ≤ 6
    · exact show_br k a e n l w (by omega) h6
    · rcases (by omega : k = 7 ∨ k = 8 ∨ k = 9) with rfl | rfl | rfl
      · exact show_word a e n l w hlen
      · exact show_num a e n l w h0 h1 hv
      · exact show_bits a e n l w hlen
end Go.Proofs.YtcagfnllfenokaaDoor
