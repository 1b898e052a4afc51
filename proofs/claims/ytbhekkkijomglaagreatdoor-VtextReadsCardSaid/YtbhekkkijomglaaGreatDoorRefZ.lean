/- The walk of the reference's Next. -/
import Derived.Test.YtbhekkkijomglaaGreatDoorRefY
import Derived.Test.YtbhekkkijomglaaGreatDoorLexW3Z
namespace Go.Proofs.YtbhekkkijomglaaGreatDoor
open Go.RowKit

set_option maxRecDepth 100000 in
set_option maxHeartbeats 1000000 in
theorem rnext_out (s : ByteArray) (i : Int) (w : World) (hs : s.size ≤ 20000) (h : i < 0 ∨ (s.size : Int) < i) :
    Calls Tryz.prog 36 #[.string s, .int .i64 i] w fun e w' => e = .returned (nextVal (lexNext s.data.toList i)) ∧ Below w.heap.size w w' := by
  have hlen : s.data.toList.length = s.size := by simp
  have hfin := lexNext_out s.data.toList i (by rw [hlen]; exact h)
  have HE := Lib.hid hfin; clear hfin
  have b0 : ∀ o, Below w.heap.size w (w.alloc o) := fun o => (Below.refl w.heap.size w).alloc (Nat.le_refl _) o
  have HB0 := Lib.hid b0; clear b0
  rcases h with h1 | h1
  · go_enter Tryz.func36, Tryz.ntmps36
    go_wp2_with fail
    refine bodyPost_ret (v := .tuple #[.agg #[.int .u8 0, .int .i64 0, .int .i64 0, .int .i64 0, .string ⟨#[]⟩], .int .i64 0, .int .i64 1]) (by simp [results, Tryz.results36, go_sem]) rfl ⟨by rw [HE.out]; rfl, HB0.out _⟩
  · have h2 : (0 : Int) ≤ i := by omega
    go_enter Tryz.func36, Tryz.ntmps36
    go_wp2_with fail
    refine bodyPost_ret (v := .tuple #[.agg #[.int .u8 0, .int .i64 0, .int .i64 0, .int .i64 0, .string ⟨#[]⟩], .int .i64 0, .int .i64 1]) (by simp [results, Tryz.results36, go_sem]) rfl ⟨by rw [HE.out]; rfl, HB0.out _⟩

set_option maxRecDepth 100000 in
set_option maxHeartbeats 1000000 in
theorem rnext_end (s : ByteArray) (a : Nat) (w : World) (hs : s.size ≤ 20000) (ha : a ≤ s.size) (hb : s.size = a + skipN (s.data.toList.drop a)) :
    Calls Tryz.prog 36 #[.string s, .int .i64 a] w fun e w' => e = .returned (nextVal (lexNext s.data.toList a)) ∧ Below w.heap.size w w' := by
  have hlen : s.data.toList.length = s.size := by simp
  have hfin := fromRest_end a (s.data.toList.drop a) (by rw [List.length_drop, hlen]; omega)
  rw [List.length_drop, hlen, show a + (s.size - a) = s.size by omega] at hfin
  rw [lexNext_in _ _ (by rw [hlen]; exact ha)]
  have HE := Lib.hid hfin; clear hfin
  have b0 : ∀ o, Below w.heap.size w (w.alloc o) := fun o => (Below.refl w.heap.size w).alloc (Nat.le_refl _) o
  have HB0 := Lib.hid b0; clear b0
  obtain ⟨-, hB, -⟩ := next_bytes s a ha s.size hb
  have HBL : Hid (∀ k, a ≤ k → (hk : k < s.size) → ∀ W, Calls Tryz.prog 52 #[.int .u8 (s[k].toNat : Nat)] W fun e w' => e = .returned (.bool true) ∧ W = w') := fun k h1 hk W => rblank_any s[k] W true (hB k h1 hk).2
  clear hB hb
  have a1 : (a : Int) ≤ (s.size : Int) := by omega
  have a2 : (0 : Int) ≤ (a : Int) := by omega
  have a3 : decide ((a : Int) < 0) = false := decide_eq_false (by omega)
  have a4 : decide (s.size < a) = false := decide_eq_false (by omega)
  go_enter Tryz.func36, Tryz.ntmps36
  go_wp2_with fail
  go_loop [1] (fun i => ∃ k : Nat, a ≤ k ∧ k ≤ s.size ∧ i = .int .i64 k) (fun i => s.size - (intOf i).toNat)
  case atStart => exact ⟨a, Nat.le_refl _, ha, rfl⟩
  case round =>
    obtain ⟨k, hk1, hk, rfl⟩ := hrel
    by_cases hlt : k < s.size
    · go_wp2_with (go_at_call 52; refine (HBL.out k hk1 hlt _).mono ?_; rintro e w' ⟨rfl, rfl⟩)
      go_round
      case rel => exact ⟨k + 1, by omega, by omega, by go_num⟩
      case measure => simp [intOf]; omega
    · obtain rfl : k = s.size := by omega
      go_wp2_with fail
      refine bodyPost_ret (v := .tuple #[.agg #[.int .u8 10, .int .i64 s.size, .int .i64 s.size, .int .i64 0, .string ⟨#[]⟩], .int .i64 0, .int .i64 0]) (by simp [results, Tryz.results36, go_sem]) rfl ⟨by rw [HE.out]; rfl, HB0.out _⟩

set_option maxRecDepth 100000 in
set_option maxHeartbeats 1600000 in
theorem rnext_br_ok (s : ByteArray) (a b t : Nat) (w : World) (kk : Nat) (n : Int) (l : List UInt8) (hs : s.size ≤ 20000) (hab : a ≤ b) (hbt : b < t) (hts : t ≤ s.size)
    (hB : ∀ j, a ≤ j → j < b → ∃ h : j < s.size, blankB s[j] = true) (hbl : blankB (s[b]'(by omega)) = false) (hm : t = b + 1) (hbr : brB (s[b]'(by omega)) = true)
    (HM : Hid (∀ W, Calls Tryz.prog 54 #[.string (s.extract b t)] W fun e w' => e = .returned (.tuple #[.agg #[.int .u8 kk, .int .i64 0, .int .i64 0, .int .i64 n, .string (bs l)], .int .i64 0]) ∧ Below W.heap.size W w')) :
    Calls Tryz.prog 36 #[.string s, .int .i64 a] w fun e w' => e = .returned (.tuple #[.agg #[.int .u8 kk, .int .i64 b, .int .i64 t, .int .i64 n, .string (bs l)], .int .i64 0, .int .i64 0]) ∧ Below w.heap.size w w' := by
  have b0 : ∀ o, Below w.heap.size w (w.alloc o) := fun o => (Below.refl w.heap.size w).alloc (Nat.le_refl _) o
  have HB0 := Lib.hid b0; clear b0
  have HBL : Hid (∀ k, a ≤ k → k < b → (hk : k < s.size) → ∀ W, Calls Tryz.prog 52 #[.int .u8 (s[k].toNat : Nat)] W fun e w' => e = .returned (.bool true) ∧ W = w') := fun k h1 h2 hk W => rblank_any s[k] W true (hB k h1 h2).2
  have hbs : b < s.size := by omega
  have HBB : Hid (∀ W, Calls Tryz.prog 52 #[.int .u8 (s[b].toNat : Nat)] W fun e w' => e = .returned (.bool false) ∧ W = w') := fun W => rblank_any s[b] W false hbl
  have HBK := Lib.hid (fun W => rbracket_any s[b] W)

  have hq : 0 < brK s[b] := of_decide_eq_true hbr
  have hq1 : ((brK s[b] : Int) == 0) = false := beq_eq_false_iff_ne.2 (by omega)
  clear hB hbl hbr hq
  have t1 : (t : Int) ≤ (s.size : Int) := by omega
  have t2 : (b : Int) ≤ (t : Int) := by omega
  have t3 : (0 : Int) ≤ (t : Int) := by omega
  have z3 : ((b : Int) == (s.size : Int)) = false := beq_eq_false_iff_ne.2 (by omega)
  have a1 : (a : Int) ≤ (s.size : Int) := by omega
  have a2 : (0 : Int) ≤ (a : Int) := by omega
  have a3 : decide ((a : Int) < 0) = false := decide_eq_false (by omega)
  have a4 : decide (s.size < a) = false := decide_eq_false (by omega)
  go_enter Tryz.func36, Tryz.ntmps36
  go_wp2_with fail
  go_loop [1] (fun i => ∃ k : Nat, a ≤ k ∧ k ≤ b ∧ i = .int .i64 k) (fun i => s.size - (intOf i).toNat)
  case atStart => exact ⟨a, Nat.le_refl _, hab, rfl⟩
  case round =>
    obtain ⟨k, hk1, hk, rfl⟩ := hrel
    by_cases hlt : k < b
    · have hks : k < s.size := by omega
      go_wp2_with (go_at_call 52; refine (HBL.out k hk1 hlt hks _).mono ?_; rintro e w' ⟨rfl, rfl⟩)
      go_round
      case rel => exact ⟨k + 1, by omega, by omega, by go_num⟩
      case measure => simp [intOf]; omega
    · obtain rfl : b = k := by omega

      have hte : (b : Int) + 1 = (t : Int) := by omega
      clear hm
      go_wp2_with (first | (go_at_call 52; refine (HBB.out _).mono ?_; rintro e w' ⟨rfl, rfl⟩) | (go_at_call 53; refine (HBK.out _).mono ?_; rintro e w' ⟨rfl, rfl⟩))
      refine (HM.out _).mono ?_
      rintro e w3 ⟨rfl, hb3⟩
      have hB := (Blk.new w 67 #[.int .u8 0, .int .i64 0, .int .i64 0, .int .i64 0, .string ⟨#[]⟩]).below hb3 (by simp)
      have o := (HB0.out (.cells #[.int .u8 0, .int .i64 0, .int .i64 0, .int .i64 0, .string ⟨#[]⟩] 67)).trans (hb3.mono (by simp))
      clear hb3
      have hlt3 := hB.lt
      have hgne : ¬ w.heap.size = w3.heap.size := by omega
      have hB3 := hB.alloc (.cells #[.int .u8 kk, .int .i64 b, .int .i64 t, .int .i64 n, .string (bs l)] 67)
      have o3 := o.alloc (by omega) (.cells #[.int .u8 kk, .int .i64 b, .int .i64 t, .int .i64 n, .string (bs l)] 67)
      clear hB o
      obtain ⟨⟨c0, c1, c2, c3, c4⟩, f0, f1, f2, f3, f4⟩ := hB3.five
      obtain ⟨⟨r0, r1, r2, r3, r4⟩, _⟩ := (hB3.set5 (.int .u8 kk) (.int .i64 b) (.int .i64 t) (.int .i64 n) (.string (bs l))).five
      have HFIN := Lib.hid (below_set5 o3 (Nat.le_refl _) (.int .u8 kk) (.int .i64 b) (.int .i64 t) (.int .i64 n) (.string (bs l)))
      have HR := Lib.hid (And.intro r0 (And.intro r1 (And.intro r2 (And.intro r3 r4))))
      clear r0 r1 r2 r3 r4 hB3 o3 hgne hlt3
      generalize hg : w.heap.size = g at *
      have HG := Lib.hid hg; clear hg
      go_wp2_with fail
      obtain ⟨r0, r1, r2, r3, r4⟩ := HR.out
      refine bodyPost_ret (v := .tuple #[.agg #[.int .u8 kk, .int .i64 b, .int .i64 t, .int .i64 n, .string (bs l)], .int .i64 0, .int .i64 0]) (by simp [results, Tryz.results36, go_sem, r0, r1, r2, r3, r4]) rfl ⟨rfl, ?_⟩
      rw [HG.out]
      exact HFIN.out

set_option maxRecDepth 100000 in
set_option maxHeartbeats 1600000 in
theorem rnext_br_bad (s : ByteArray) (a b t : Nat) (w : World) (kk : Nat) (n : Int) (l : List UInt8) (er : Nat) (her : er ≠ 0) (hs : s.size ≤ 20000) (hab : a ≤ b) (hbt : b < t) (hts : t ≤ s.size)
    (hB : ∀ j, a ≤ j → j < b → ∃ h : j < s.size, blankB s[j] = true) (hbl : blankB (s[b]'(by omega)) = false) (hm : t = b + 1) (hbr : brB (s[b]'(by omega)) = true)
    (HM : Hid (∀ W, Calls Tryz.prog 54 #[.string (s.extract b t)] W fun e w' => e = .returned (.tuple #[.agg #[.int .u8 kk, .int .i64 0, .int .i64 0, .int .i64 n, .string (bs l)], .int .i64 er]) ∧ Below W.heap.size W w')) :
    Calls Tryz.prog 36 #[.string s, .int .i64 a] w fun e w' => e = .returned (.tuple #[.agg #[.int .u8 0, .int .i64 0, .int .i64 0, .int .i64 0, .string ⟨#[]⟩], .int .i64 b, .int .i64 er]) ∧ Below w.heap.size w w' := by
  have b0 : ∀ o, Below w.heap.size w (w.alloc o) := fun o => (Below.refl w.heap.size w).alloc (Nat.le_refl _) o
  have HB0 := Lib.hid b0; clear b0
  have HBL : Hid (∀ k, a ≤ k → k < b → (hk : k < s.size) → ∀ W, Calls Tryz.prog 52 #[.int .u8 (s[k].toNat : Nat)] W fun e w' => e = .returned (.bool true) ∧ W = w') := fun k h1 h2 hk W => rblank_any s[k] W true (hB k h1 h2).2
  have hbs : b < s.size := by omega
  have HBB : Hid (∀ W, Calls Tryz.prog 52 #[.int .u8 (s[b].toNat : Nat)] W fun e w' => e = .returned (.bool false) ∧ W = w') := fun W => rblank_any s[b] W false hbl
  have HBK := Lib.hid (fun W => rbracket_any s[b] W)

  have hq : 0 < brK s[b] := of_decide_eq_true hbr
  have hq1 : ((brK s[b] : Int) == 0) = false := beq_eq_false_iff_ne.2 (by omega)
  clear hB hbl hbr hq
  have t1 : (t : Int) ≤ (s.size : Int) := by omega
  have t2 : (b : Int) ≤ (t : Int) := by omega
  have t3 : (0 : Int) ≤ (t : Int) := by omega
  have z3 : ((b : Int) == (s.size : Int)) = false := beq_eq_false_iff_ne.2 (by omega)
  have a1 : (a : Int) ≤ (s.size : Int) := by omega
  have a2 : (0 : Int) ≤ (a : Int) := by omega
  have a3 : decide ((a : Int) < 0) = false := decide_eq_false (by omega)
  have a4 : decide (s.size < a) = false := decide_eq_false (by omega)
  have hne : ((er : Int) == 0) = false := beq_eq_false_iff_ne.2 (by omega)
  have hne' : ((er : Int) != 0) = true := bne_iff_ne.2 (by omega)
  go_enter Tryz.func36, Tryz.ntmps36
  go_wp2_with fail
  go_loop [1] (fun i => ∃ k : Nat, a ≤ k ∧ k ≤ b ∧ i = .int .i64 k) (fun i => s.size - (intOf i).toNat)
  case atStart => exact ⟨a, Nat.le_refl _, hab, rfl⟩
  case round =>
    obtain ⟨k, hk1, hk, rfl⟩ := hrel
    by_cases hlt : k < b
    · have hks : k < s.size := by omega
      go_wp2_with (go_at_call 52; refine (HBL.out k hk1 hlt hks _).mono ?_; rintro e w' ⟨rfl, rfl⟩)
      go_round
      case rel => exact ⟨k + 1, by omega, by omega, by go_num⟩
      case measure => simp [intOf]; omega
    · obtain rfl : b = k := by omega

      have hte : (b : Int) + 1 = (t : Int) := by omega
      clear hm
      go_wp2_with (first | (go_at_call 52; refine (HBB.out _).mono ?_; rintro e w' ⟨rfl, rfl⟩) | (go_at_call 53; refine (HBK.out _).mono ?_; rintro e w' ⟨rfl, rfl⟩))
      refine (HM.out _).mono ?_
      rintro e w3 ⟨rfl, hb3⟩
      have hB := (Blk.new w 67 #[.int .u8 0, .int .i64 0, .int .i64 0, .int .i64 0, .string ⟨#[]⟩]).below hb3 (by simp)
      have o := (HB0.out (.cells #[.int .u8 0, .int .i64 0, .int .i64 0, .int .i64 0, .string ⟨#[]⟩] 67)).trans (hb3.mono (by simp))
      clear hb3
      have hlt3 := hB.lt
      have hgne : ¬ w.heap.size = w3.heap.size := by omega
      have hB3 := hB.alloc (.cells #[.int .u8 kk, .int .i64 0, .int .i64 0, .int .i64 n, .string (bs l)] 67)
      have o3 := o.alloc (by omega) (.cells #[.int .u8 kk, .int .i64 0, .int .i64 0, .int .i64 n, .string (bs l)] 67)
      clear hB o
      obtain ⟨⟨c0, c1, c2, c3, c4⟩, f0, f1, f2, f3, f4⟩ := hB3.five
      obtain ⟨⟨r0, r1, r2, r3, r4⟩, _⟩ := (hB3.set5 (.int .u8 0) (.int .i64 0) (.int .i64 0) (.int .i64 0) (.string ⟨#[]⟩)).five
      have HFIN := Lib.hid (below_set5 o3 (Nat.le_refl _) (.int .u8 0) (.int .i64 0) (.int .i64 0) (.int .i64 0) (.string ⟨#[]⟩))
      have HR := Lib.hid (And.intro r0 (And.intro r1 (And.intro r2 (And.intro r3 r4))))
      clear r0 r1 r2 r3 r4 hB3 o3 hgne hlt3
      generalize hg : w.heap.size = g at *
      have HG := Lib.hid hg; clear hg
      go_wp2_with fail
      obtain ⟨r0, r1, r2, r3, r4⟩ := HR.out
      refine bodyPost_ret (v := .tuple #[.agg #[.int .u8 0, .int .i64 0, .int .i64 0, .int .i64 0, .string ⟨#[]⟩], .int .i64 b, .int .i64 er]) (by simp [results, Tryz.results36, go_sem, r0, r1, r2, r3, r4]) rfl ⟨rfl, ?_⟩
      rw [HG.out]
      exact HFIN.out

set_option maxRecDepth 100000 in
set_option maxHeartbeats 1600000 in
theorem rnext_go_ok (s : ByteArray) (a b t : Nat) (w : World) (kk : Nat) (n : Int) (l : List UInt8) (hs : s.size ≤ 20000) (hab : a ≤ b) (hbt : b < t) (hts : t ≤ s.size)
    (hB : ∀ j, a ≤ j → j < b → ∃ h : j < s.size, blankB s[j] = true) (hbl : blankB (s[b]'(by omega)) = false) (hbr : brB (s[b]'(by omega)) = false) (hgo : ∀ k, b < k → k < t → ∃ h : k < s.size, blankB s[k] = false ∧ brB s[k] = false) (hst : (h : t < s.size) → blankB s[t] = true ∨ (blankB s[t] = false ∧ brB s[t] = true))
    (HM : Hid (∀ W, Calls Tryz.prog 54 #[.string (s.extract b t)] W fun e w' => e = .returned (.tuple #[.agg #[.int .u8 kk, .int .i64 0, .int .i64 0, .int .i64 n, .string (bs l)], .int .i64 0]) ∧ Below W.heap.size W w')) :
    Calls Tryz.prog 36 #[.string s, .int .i64 a] w fun e w' => e = .returned (.tuple #[.agg #[.int .u8 kk, .int .i64 b, .int .i64 t, .int .i64 n, .string (bs l)], .int .i64 0, .int .i64 0]) ∧ Below w.heap.size w w' := by
  have b0 : ∀ o, Below w.heap.size w (w.alloc o) := fun o => (Below.refl w.heap.size w).alloc (Nat.le_refl _) o
  have HB0 := Lib.hid b0; clear b0
  have HBL : Hid (∀ k, a ≤ k → k < b → (hk : k < s.size) → ∀ W, Calls Tryz.prog 52 #[.int .u8 (s[k].toNat : Nat)] W fun e w' => e = .returned (.bool true) ∧ W = w') := fun k h1 h2 hk W => rblank_any s[k] W true (hB k h1 h2).2
  have hbs : b < s.size := by omega
  have HBB : Hid (∀ W, Calls Tryz.prog 52 #[.int .u8 (s[b].toNat : Nat)] W fun e w' => e = .returned (.bool false) ∧ W = w') := fun W => rblank_any s[b] W false hbl
  have HBK := Lib.hid (fun W => rbracket_any s[b] W)

  have hq : brK s[b] = 0 := by have := of_decide_eq_false hbr; omega
  rw [hq] at HBK
  have HGO : Hid (∀ k, b < k → k < t → (hk : k < s.size) → ∀ W, Calls Tryz.prog 52 #[.int .u8 (s[k].toNat : Nat)] W fun e w' => e = .returned (.bool false) ∧ W = w') := fun k h1 h2 hk W => rblank_any s[k] W false (hgo k h1 h2).2.1
  have HGB : Hid (∀ k, b < k → k < t → (hk : k < s.size) → ∀ W, Calls Tryz.prog 53 #[.int .u8 (s[k].toNat : Nat)] W fun e w' => e = .returned (.int .u8 0) ∧ W = w') := fun k h1 h2 hk W => by
    have := rbracket_any s[k] W
    rwa [show brK s[k] = 0 by have := of_decide_eq_false (hgo k h1 h2).2.2; omega] at this
  have HST : Hid ((h : t < s.size) → (∀ W, Calls Tryz.prog 52 #[.int .u8 (s[t].toNat : Nat)] W fun e w' => e = .returned (.bool true) ∧ W = w') ∨
      ((∀ W, Calls Tryz.prog 52 #[.int .u8 (s[t].toNat : Nat)] W fun e w' => e = .returned (.bool false) ∧ W = w') ∧ ∃ q : Nat, ((q : Int) == 0) = false ∧ ∀ W, Calls Tryz.prog 53 #[.int .u8 (s[t].toNat : Nat)] W fun e w' => e = .returned (.int .u8 q) ∧ W = w')) := fun h => by
    rcases hst h with k | ⟨k1, k2⟩
    · exact .inl fun W => rblank_any s[t] W true k
    · refine .inr ⟨fun W => rblank_any s[t] W false k1, brK s[t], ?_, fun W => rbracket_any s[t] W⟩
      have := of_decide_eq_true k2
      exact beq_eq_false_iff_ne.2 (by omega)
  clear hB hbl hbr hq hgo hst
  have t1 : (t : Int) ≤ (s.size : Int) := by omega
  have t2 : (b : Int) ≤ (t : Int) := by omega
  have t3 : (0 : Int) ≤ (t : Int) := by omega
  have z3 : ((b : Int) == (s.size : Int)) = false := beq_eq_false_iff_ne.2 (by omega)
  have a1 : (a : Int) ≤ (s.size : Int) := by omega
  have a2 : (0 : Int) ≤ (a : Int) := by omega
  have a3 : decide ((a : Int) < 0) = false := decide_eq_false (by omega)
  have a4 : decide (s.size < a) = false := decide_eq_false (by omega)
  go_enter Tryz.func36, Tryz.ntmps36
  go_wp2_with fail
  go_loop [1] (fun i => ∃ k : Nat, a ≤ k ∧ k ≤ b ∧ i = .int .i64 k) (fun i => s.size - (intOf i).toNat)
  case atStart => exact ⟨a, Nat.le_refl _, hab, rfl⟩
  case round =>
    obtain ⟨k, hk1, hk, rfl⟩ := hrel
    by_cases hlt : k < b
    · have hks : k < s.size := by omega
      go_wp2_with (go_at_call 52; refine (HBL.out k hk1 hlt hks _).mono ?_; rintro e w' ⟨rfl, rfl⟩)
      go_round
      case rel => exact ⟨k + 1, by omega, by omega, by go_num⟩
      case measure => simp [intOf]; omega
    · obtain rfl : b = k := by omega

      go_wp2_with (first | (go_at_call 52; refine (HBB.out _).mono ?_; rintro e w' ⟨rfl, rfl⟩) | (go_at_call 53; refine (HBK.out _).mono ?_; rintro e w' ⟨rfl, rfl⟩))
      go_loop [7] (fun i => ∃ j : Nat, b + 1 ≤ j ∧ j ≤ t ∧ i = .int .i64 j) (fun i => s.size - (intOf i).toNat)
      case atStart => exact ⟨b + 1, by omega, by omega, by go_num⟩
      case round =>
        obtain ⟨j, hj1, hj, rfl⟩ := hrel
        by_cases hjt : j < t
        · have hjs : j < s.size := by omega
          have hj2 : b < j := by omega
          go_wp2_with (first | (go_at_call 52; refine (HGO.out j hj2 hjt hjs _).mono ?_; rintro e w' ⟨rfl, rfl⟩) | (go_at_call 53; refine (HGB.out j hj2 hjt hjs _).mono ?_; rintro e w' ⟨rfl, rfl⟩))
          go_round
          case rel => exact ⟨j + 1, by omega, by omega, by go_num⟩
          case measure => simp [intOf]; omega
        · obtain rfl : t = j := by omega
          by_cases hts2 : t < s.size
          · rcases HST.out hts2 with X1 | ⟨X1, q, hq, X2⟩
            · have HX1 := Lib.hid X1; clear X1
              go_wp2_with (go_at_call 52; refine (HX1.out _).mono ?_; rintro e w' ⟨rfl, rfl⟩)
              refine (HM.out _).mono ?_
              rintro e w3 ⟨rfl, hb3⟩
              have hB := (Blk.new w 67 #[.int .u8 0, .int .i64 0, .int .i64 0, .int .i64 0, .string ⟨#[]⟩]).below hb3 (by simp)
              have o := (HB0.out (.cells #[.int .u8 0, .int .i64 0, .int .i64 0, .int .i64 0, .string ⟨#[]⟩] 67)).trans (hb3.mono (by simp))
              clear hb3
              have hlt3 := hB.lt
              have hgne : ¬ w.heap.size = w3.heap.size := by omega
              have hB3 := hB.alloc (.cells #[.int .u8 kk, .int .i64 b, .int .i64 t, .int .i64 n, .string (bs l)] 67)
              have o3 := o.alloc (by omega) (.cells #[.int .u8 kk, .int .i64 b, .int .i64 t, .int .i64 n, .string (bs l)] 67)
              clear hB o
              obtain ⟨⟨c0, c1, c2, c3, c4⟩, f0, f1, f2, f3, f4⟩ := hB3.five
              obtain ⟨⟨r0, r1, r2, r3, r4⟩, _⟩ := (hB3.set5 (.int .u8 kk) (.int .i64 b) (.int .i64 t) (.int .i64 n) (.string (bs l))).five
              have HFIN := Lib.hid (below_set5 o3 (Nat.le_refl _) (.int .u8 kk) (.int .i64 b) (.int .i64 t) (.int .i64 n) (.string (bs l)))
              have HR := Lib.hid (And.intro r0 (And.intro r1 (And.intro r2 (And.intro r3 r4))))
              clear r0 r1 r2 r3 r4 hB3 o3 hgne hlt3
              generalize hg : w.heap.size = g at *
              have HG := Lib.hid hg; clear hg
              go_wp2_with fail
              obtain ⟨r0, r1, r2, r3, r4⟩ := HR.out
              refine bodyPost_ret (v := .tuple #[.agg #[.int .u8 kk, .int .i64 b, .int .i64 t, .int .i64 n, .string (bs l)], .int .i64 0, .int .i64 0]) (by simp [results, Tryz.results36, go_sem, r0, r1, r2, r3, r4]) rfl ⟨rfl, ?_⟩
              rw [HG.out]
              exact HFIN.out
            · have HX1 := Lib.hid X1; clear X1
              have HX2 := Lib.hid X2; clear X2
              go_wp2_with (first | (go_at_call 52; refine (HX1.out _).mono ?_; rintro e w' ⟨rfl, rfl⟩) | (go_at_call 53; refine (HX2.out _).mono ?_; rintro e w' ⟨rfl, rfl⟩))
              refine (HM.out _).mono ?_
              rintro e w3 ⟨rfl, hb3⟩
              have hB := (Blk.new w 67 #[.int .u8 0, .int .i64 0, .int .i64 0, .int .i64 0, .string ⟨#[]⟩]).below hb3 (by simp)
              have o := (HB0.out (.cells #[.int .u8 0, .int .i64 0, .int .i64 0, .int .i64 0, .string ⟨#[]⟩] 67)).trans (hb3.mono (by simp))
              clear hb3
              have hlt3 := hB.lt
              have hgne : ¬ w.heap.size = w3.heap.size := by omega
              have hB3 := hB.alloc (.cells #[.int .u8 kk, .int .i64 b, .int .i64 t, .int .i64 n, .string (bs l)] 67)
              have o3 := o.alloc (by omega) (.cells #[.int .u8 kk, .int .i64 b, .int .i64 t, .int .i64 n, .string (bs l)] 67)
              clear hB o
              obtain ⟨⟨c0, c1, c2, c3, c4⟩, f0, f1, f2, f3, f4⟩ := hB3.five
              obtain ⟨⟨r0, r1, r2, r3, r4⟩, _⟩ := (hB3.set5 (.int .u8 kk) (.int .i64 b) (.int .i64 t) (.int .i64 n) (.string (bs l))).five
              have HFIN := Lib.hid (below_set5 o3 (Nat.le_refl _) (.int .u8 kk) (.int .i64 b) (.int .i64 t) (.int .i64 n) (.string (bs l)))
              have HR := Lib.hid (And.intro r0 (And.intro r1 (And.intro r2 (And.intro r3 r4))))
              clear r0 r1 r2 r3 r4 hB3 o3 hgne hlt3
              generalize hg : w.heap.size = g at *
              have HG := Lib.hid hg; clear hg
              go_wp2_with fail
              obtain ⟨r0, r1, r2, r3, r4⟩ := HR.out
              refine bodyPost_ret (v := .tuple #[.agg #[.int .u8 kk, .int .i64 b, .int .i64 t, .int .i64 n, .string (bs l)], .int .i64 0, .int .i64 0]) (by simp [results, Tryz.results36, go_sem, r0, r1, r2, r3, r4]) rfl ⟨rfl, ?_⟩
              rw [HG.out]
              exact HFIN.out
          · 
            go_wp2_with fail
            refine (HM.out _).mono ?_
            rintro e w3 ⟨rfl, hb3⟩
            have hB := (Blk.new w 67 #[.int .u8 0, .int .i64 0, .int .i64 0, .int .i64 0, .string ⟨#[]⟩]).below hb3 (by simp)
            have o := (HB0.out (.cells #[.int .u8 0, .int .i64 0, .int .i64 0, .int .i64 0, .string ⟨#[]⟩] 67)).trans (hb3.mono (by simp))
            clear hb3
            have hlt3 := hB.lt
            have hgne : ¬ w.heap.size = w3.heap.size := by omega
            have hB3 := hB.alloc (.cells #[.int .u8 kk, .int .i64 b, .int .i64 t, .int .i64 n, .string (bs l)] 67)
            have o3 := o.alloc (by omega) (.cells #[.int .u8 kk, .int .i64 b, .int .i64 t, .int .i64 n, .string (bs l)] 67)
            clear hB o
            obtain ⟨⟨c0, c1, c2, c3, c4⟩, f0, f1, f2, f3, f4⟩ := hB3.five
            obtain ⟨⟨r0, r1, r2, r3, r4⟩, _⟩ := (hB3.set5 (.int .u8 kk) (.int .i64 b) (.int .i64 t) (.int .i64 n) (.string (bs l))).five
            have HFIN := Lib.hid (below_set5 o3 (Nat.le_refl _) (.int .u8 kk) (.int .i64 b) (.int .i64 t) (.int .i64 n) (.string (bs l)))
            have HR := Lib.hid (And.intro r0 (And.intro r1 (And.intro r2 (And.intro r3 r4))))
            clear r0 r1 r2 r3 r4 hB3 o3 hgne hlt3
            generalize hg : w.heap.size = g at *
            have HG := Lib.hid hg; clear hg
            go_wp2_with fail
            obtain ⟨r0, r1, r2, r3, r4⟩ := HR.out
            refine bodyPost_ret (v := .tuple #[.agg #[.int .u8 kk, .int .i64 b, .int .i64 t, .int .i64 n, .string (bs l)], .int .i64 0, .int .i64 0]) (by simp [results, Tryz.results36, go_sem, r0, r1, r2, r3, r4]) rfl ⟨rfl, ?_⟩
            rw [HG.out]
            exact HFIN.out

set_option maxRecDepth 100000 in
set_option maxHeartbeats 1600000 in
theorem rnext_go_bad (s : ByteArray) (a b t : Nat) (w : World) (kk : Nat) (n : Int) (l : List UInt8) (er : Nat) (her : er ≠ 0) (hs : s.size ≤ 20000) (hab : a ≤ b) (hbt : b < t) (hts : t ≤ s.size)
    (hB : ∀ j, a ≤ j → j < b → ∃ h : j < s.size, blankB s[j] = true) (hbl : blankB (s[b]'(by omega)) = false) (hbr : brB (s[b]'(by omega)) = false) (hgo : ∀ k, b < k → k < t → ∃ h : k < s.size, blankB s[k] = false ∧ brB s[k] = false) (hst : (h : t < s.size) → blankB s[t] = true ∨ (blankB s[t] = false ∧ brB s[t] = true))
    (HM : Hid (∀ W, Calls Tryz.prog 54 #[.string (s.extract b t)] W fun e w' => e = .returned (.tuple #[.agg #[.int .u8 kk, .int .i64 0, .int .i64 0, .int .i64 n, .string (bs l)], .int .i64 er]) ∧ Below W.heap.size W w')) :
    Calls Tryz.prog 36 #[.string s, .int .i64 a] w fun e w' => e = .returned (.tuple #[.agg #[.int .u8 0, .int .i64 0, .int .i64 0, .int .i64 0, .string ⟨#[]⟩], .int .i64 b, .int .i64 er]) ∧ Below w.heap.size w w' := by
  have b0 : ∀ o, Below w.heap.size w (w.alloc o) := fun o => (Below.refl w.heap.size w).alloc (Nat.le_refl _) o
  have HB0 := Lib.hid b0; clear b0
  have HBL : Hid (∀ k, a ≤ k → k < b → (hk : k < s.size) → ∀ W, Calls Tryz.prog 52 #[.int .u8 (s[k].toNat : Nat)] W fun e w' => e = .returned (.bool true) ∧ W = w') := fun k h1 h2 hk W => rblank_any s[k] W true (hB k h1 h2).2
  have hbs : b < s.size := by omega
  have HBB : Hid (∀ W, Calls Tryz.prog 52 #[.int .u8 (s[b].toNat : Nat)] W fun e w' => e = .returned (.bool false) ∧ W = w') := fun W => rblank_any s[b] W false hbl
  have HBK := Lib.hid (fun W => rbracket_any s[b] W)

  have hq : brK s[b] = 0 := by have := of_decide_eq_false hbr; omega
  rw [hq] at HBK
  have HGO : Hid (∀ k, b < k → k < t → (hk : k < s.size) → ∀ W, Calls Tryz.prog 52 #[.int .u8 (s[k].toNat : Nat)] W fun e w' => e = .returned (.bool false) ∧ W = w') := fun k h1 h2 hk W => rblank_any s[k] W false (hgo k h1 h2).2.1
  have HGB : Hid (∀ k, b < k → k < t → (hk : k < s.size) → ∀ W, Calls Tryz.prog 53 #[.int .u8 (s[k].toNat : Nat)] W fun e w' => e = .returned (.int .u8 0) ∧ W = w') := fun k h1 h2 hk W => by
    have := rbracket_any s[k] W
    rwa [show brK s[k] = 0 by have := of_decide_eq_false (hgo k h1 h2).2.2; omega] at this
  have HST : Hid ((h : t < s.size) → (∀ W, Calls Tryz.prog 52 #[.int .u8 (s[t].toNat : Nat)] W fun e w' => e = .returned (.bool true) ∧ W = w') ∨
      ((∀ W, Calls Tryz.prog 52 #[.int .u8 (s[t].toNat : Nat)] W fun e w' => e = .returned (.bool false) ∧ W = w') ∧ ∃ q : Nat, ((q : Int) == 0) = false ∧ ∀ W, Calls Tryz.prog 53 #[.int .u8 (s[t].toNat : Nat)] W fun e w' => e = .returned (.int .u8 q) ∧ W = w')) := fun h => by
    rcases hst h with k | ⟨k1, k2⟩
    · exact .inl fun W => rblank_any s[t] W true k
    · refine .inr ⟨fun W => rblank_any s[t] W false k1, brK s[t], ?_, fun W => rbracket_any s[t] W⟩
      have := of_decide_eq_true k2
      exact beq_eq_false_iff_ne.2 (by omega)
  clear hB hbl hbr hq hgo hst
  have t1 : (t : Int) ≤ (s.size : Int) := by omega
  have t2 : (b : Int) ≤ (t : Int) := by omega
  have t3 : (0 : Int) ≤ (t : Int) := by omega
  have z3 : ((b : Int) == (s.size : Int)) = false := beq_eq_false_iff_ne.2 (by omega)
  have a1 : (a : Int) ≤ (s.size : Int) := by omega
  have a2 : (0 : Int) ≤ (a : Int) := by omega
  have a3 : decide ((a : Int) < 0) = false := decide_eq_false (by omega)
  have a4 : decide (s.size < a) = false := decide_eq_false (by omega)
  have hne : ((er : Int) == 0) = false := beq_eq_false_iff_ne.2 (by omega)
  have hne' : ((er : Int) != 0) = true := bne_iff_ne.2 (by omega)
  go_enter Tryz.func36, Tryz.ntmps36
  go_wp2_with fail
  go_loop [1] (fun i => ∃ k : Nat, a ≤ k ∧ k ≤ b ∧ i = .int .i64 k) (fun i => s.size - (intOf i).toNat)
  case atStart => exact ⟨a, Nat.le_refl _, hab, rfl⟩
  case round =>
    obtain ⟨k, hk1, hk, rfl⟩ := hrel
    by_cases hlt : k < b
    · have hks : k < s.size := by omega
      go_wp2_with (go_at_call 52; refine (HBL.out k hk1 hlt hks _).mono ?_; rintro e w' ⟨rfl, rfl⟩)
      go_round
      case rel => exact ⟨k + 1, by omega, by omega, by go_num⟩
      case measure => simp [intOf]; omega
    · obtain rfl : b = k := by omega

      go_wp2_with (first | (go_at_call 52; refine (HBB.out _).mono ?_; rintro e w' ⟨rfl, rfl⟩) | (go_at_call 53; refine (HBK.out _).mono ?_; rintro e w' ⟨rfl, rfl⟩))
      go_loop [7] (fun i => ∃ j : Nat, b + 1 ≤ j ∧ j ≤ t ∧ i = .int .i64 j) (fun i => s.size - (intOf i).toNat)
      case atStart => exact ⟨b + 1, by omega, by omega, by go_num⟩
      case round =>
        obtain ⟨j, hj1, hj, rfl⟩ := hrel
        by_cases hjt : j < t
        · have hjs : j < s.size := by omega
          have hj2 : b < j := by omega
          go_wp2_with (first | (go_at_call 52; refine (HGO.out j hj2 hjt hjs _).mono ?_; rintro e w' ⟨rfl, rfl⟩) | (go_at_call 53; refine (HGB.out j hj2 hjt hjs _).mono ?_; rintro e w' ⟨rfl, rfl⟩))
          go_round
          case rel => exact ⟨j + 1, by omega, by omega, by go_num⟩
          case measure => simp [intOf]; omega
        · obtain rfl : t = j := by omega
          by_cases hts2 : t < s.size
          · rcases HST.out hts2 with X1 | ⟨X1, q, hq, X2⟩
            · have HX1 := Lib.hid X1; clear X1
              go_wp2_with (go_at_call 52; refine (HX1.out _).mono ?_; rintro e w' ⟨rfl, rfl⟩)
              refine (HM.out _).mono ?_
              rintro e w3 ⟨rfl, hb3⟩
              have hB := (Blk.new w 67 #[.int .u8 0, .int .i64 0, .int .i64 0, .int .i64 0, .string ⟨#[]⟩]).below hb3 (by simp)
              have o := (HB0.out (.cells #[.int .u8 0, .int .i64 0, .int .i64 0, .int .i64 0, .string ⟨#[]⟩] 67)).trans (hb3.mono (by simp))
              clear hb3
              have hlt3 := hB.lt
              have hgne : ¬ w.heap.size = w3.heap.size := by omega
              have hB3 := hB.alloc (.cells #[.int .u8 kk, .int .i64 0, .int .i64 0, .int .i64 n, .string (bs l)] 67)
              have o3 := o.alloc (by omega) (.cells #[.int .u8 kk, .int .i64 0, .int .i64 0, .int .i64 n, .string (bs l)] 67)
              clear hB o
              obtain ⟨⟨c0, c1, c2, c3, c4⟩, f0, f1, f2, f3, f4⟩ := hB3.five
              obtain ⟨⟨r0, r1, r2, r3, r4⟩, _⟩ := (hB3.set5 (.int .u8 0) (.int .i64 0) (.int .i64 0) (.int .i64 0) (.string ⟨#[]⟩)).five
              have HFIN := Lib.hid (below_set5 o3 (Nat.le_refl _) (.int .u8 0) (.int .i64 0) (.int .i64 0) (.int .i64 0) (.string ⟨#[]⟩))
              have HR := Lib.hid (And.intro r0 (And.intro r1 (And.intro r2 (And.intro r3 r4))))
              clear r0 r1 r2 r3 r4 hB3 o3 hgne hlt3
              generalize hg : w.heap.size = g at *
              have HG := Lib.hid hg; clear hg
              go_wp2_with fail
              obtain ⟨r0, r1, r2, r3, r4⟩ := HR.out
              refine bodyPost_ret (v := .tuple #[.agg #[.int .u8 0, .int .i64 0, .int .i64 0, .int .i64 0, .string ⟨#[]⟩], .int .i64 b, .int .i64 er]) (by simp [results, Tryz.results36, go_sem, r0, r1, r2, r3, r4]) rfl ⟨rfl, ?_⟩
              rw [HG.out]
              exact HFIN.out
            · have HX1 := Lib.hid X1; clear X1
              have HX2 := Lib.hid X2; clear X2
              go_wp2_with (first | (go_at_call 52; refine (HX1.out _).mono ?_; rintro e w' ⟨rfl, rfl⟩) | (go_at_call 53; refine (HX2.out _).mono ?_; rintro e w' ⟨rfl, rfl⟩))
              refine (HM.out _).mono ?_
              rintro e w3 ⟨rfl, hb3⟩
              have hB := (Blk.new w 67 #[.int .u8 0, .int .i64 0, .int .i64 0, .int .i64 0, .string ⟨#[]⟩]).below hb3 (by simp)
              have o := (HB0.out (.cells #[.int .u8 0, .int .i64 0, .int .i64 0, .int .i64 0, .string ⟨#[]⟩] 67)).trans (hb3.mono (by simp))
              clear hb3
              have hlt3 := hB.lt
              have hgne : ¬ w.heap.size = w3.heap.size := by omega
              have hB3 := hB.alloc (.cells #[.int .u8 kk, .int .i64 0, .int .i64 0, .int .i64 n, .string (bs l)] 67)
              have o3 := o.alloc (by omega) (.cells #[.int .u8 kk, .int .i64 0, .int .i64 0, .int .i64 n, .string (bs l)] 67)
              clear hB o
              obtain ⟨⟨c0, c1, c2, c3, c4⟩, f0, f1, f2, f3, f4⟩ := hB3.five
              obtain ⟨⟨r0, r1, r2, r3, r4⟩, _⟩ := (hB3.set5 (.int .u8 0) (.int .i64 0) (.int .i64 0) (.int .i64 0) (.string ⟨#[]⟩)).five
              have HFIN := Lib.hid (below_set5 o3 (Nat.le_refl _) (.int .u8 0) (.int .i64 0) (.int .i64 0) (.int .i64 0) (.string ⟨#[]⟩))
              have HR := Lib.hid (And.intro r0 (And.intro r1 (And.intro r2 (And.intro r3 r4))))
              clear r0 r1 r2 r3 r4 hB3 o3 hgne hlt3
              generalize hg : w.heap.size = g at *
              have HG := Lib.hid hg; clear hg
              go_wp2_with fail
              obtain ⟨r0, r1, r2, r3, r4⟩ := HR.out
              refine bodyPost_ret (v := .tuple #[.agg #[.int .u8 0, .int .i64 0, .int .i64 0, .int .i64 0, .string ⟨#[]⟩], .int .i64 b, .int .i64 er]) (by simp [results, Tryz.results36, go_sem, r0, r1, r2, r3, r4]) rfl ⟨rfl, ?_⟩
              rw [HG.out]
              exact HFIN.out
          · 
            go_wp2_with fail
            refine (HM.out _).mono ?_
            rintro e w3 ⟨rfl, hb3⟩
            have hB := (Blk.new w 67 #[.int .u8 0, .int .i64 0, .int .i64 0, .int .i64 0, .string ⟨#[]⟩]).below hb3 (by simp)
            have o := (HB0.out (.cells #[.int .u8 0, .int .i64 0, .int .i64 0, .int .i64 0, .string ⟨#[]⟩] 67)).trans (hb3.mono (by simp))
            clear hb3
            have hlt3 := hB.lt
            have hgne : ¬ w.heap.size = w3.heap.size := by omega
            have hB3 := hB.alloc (.cells #[.int .u8 kk, .int .i64 0, .int .i64 0, .int .i64 n, .string (bs l)] 67)
            have o3 := o.alloc (by omega) (.cells #[.int .u8 kk, .int .i64 0, .int .i64 0, .int .i64 n, .string (bs l)] 67)
            clear hB o
            obtain ⟨⟨c0, c1, c2, c3, c4⟩, f0, f1, f2, f3, f4⟩ := hB3.five
            obtain ⟨⟨r0, r1, r2, r3, r4⟩, _⟩ := (hB3.set5 (.int .u8 0) (.int .i64 0) (.int .i64 0) (.int .i64 0) (.string ⟨#[]⟩)).five
            have HFIN := Lib.hid (below_set5 o3 (Nat.le_refl _) (.int .u8 0) (.int .i64 0) (.int .i64 0) (.int .i64 0) (.string ⟨#[]⟩))
            have HR := Lib.hid (And.intro r0 (And.intro r1 (And.intro r2 (And.intro r3 r4))))
            clear r0 r1 r2 r3 r4 hB3 o3 hgne hlt3
            generalize hg : w.heap.size = g at *
            have HG := Lib.hid hg; clear hg
            go_wp2_with fail
            obtain ⟨r0, r1, r2, r3, r4⟩ := HR.out
            refine bodyPost_ret (v := .tuple #[.agg #[.int .u8 0, .int .i64 0, .int .i64 0, .int .i64 0, .string ⟨#[]⟩], .int .i64 b, .int .i64 er]) (by simp [results, Tryz.results36, go_sem, r0, r1, r2, r3, r4]) rfl ⟨rfl, ?_⟩
            rw [HG.out]
            exact HFIN.out

theorem refnext_any (s : ByteArray) (i : Int) (w : World) (hs : s.size ≤ 20000) :
    Calls Tryz.prog 36 #[.string s, .int .i64 i] w fun e w' => e = .returned (nextVal (lexNext s.data.toList i)) ∧ Below w.heap.size w w' := by
  have hlen : s.data.toList.length = s.size := by simp
  by_cases h : i < 0 ∨ (s.size : Int) < i
  · exact rnext_out s i w hs h
  obtain ⟨a, rfl⟩ : ∃ a : Nat, i = a := ⟨i.toNat, by omega⟩
  have ha : a ≤ s.size := by omega
  obtain ⟨b, hb⟩ : ∃ b, b = a + skipN (s.data.toList.drop a) := ⟨_, rfl⟩
  obtain ⟨hbs, hB, hR⟩ := next_bytes s a ha b hb
  rcases Nat.lt_or_eq_of_le hbs with hlt | heq
  · obtain ⟨hbl, m, hm, hm0, hml, hcut, hbr, hgo⟩ := hR hlt
    have hfin := fromRest_run a (s.data.toList.drop a) (by rw [List.length_drop, hlen]; omega)
    rw [List.drop_drop, ← hb, fromRun, ← hm] at hfin
    rw [lexNext_in _ _ (by rw [hlen]; exact ha), hfin]
    have hex : (s.extract b (b + m)).data.toList = (s.data.toList.drop b).take m := by rw [slice_list, show b + m - b = m by omega]
    have hM := fun W => rrun_any (s.extract b (b + m)) (s.data.toList.drop (b + m)) W (by rw [ByteArray.size_extract]; omega) (by rw [hex]; exact hcut)
    rw [hex] at hM
    have hab : a ≤ b := by omega
    clear hfin hR hb hm hcut
    generalize lexRun ((s.data.toList.drop b).take m) = g at *
    obtain ⟨⟨kk, n, l⟩, er⟩ := g
    unfold ofGot
    by_cases her : er = 0
    · subst her
      rw [if_pos rfl]
      cases hq : brB s[b] with
      | true => exact rnext_br_ok s a b (b + m) w kk n l hs (by omega) (by omega) hml hB hbl (by rw [hbr hq]) hq (Lib.hid hM)
      | false => exact rnext_go_ok s a b (b + m) w kk n l hs (by omega) (by omega) hml hB hbl hq (hgo hq).1 (hgo hq).2 (Lib.hid hM)
    · rw [if_neg her]
      cases hq : brB s[b] with
      | true => exact rnext_br_bad s a b (b + m) w kk n l er her hs (by omega) (by omega) hml hB hbl (by rw [hbr hq]) hq (Lib.hid hM)
      | false => exact rnext_go_bad s a b (b + m) w kk n l er her hs (by omega) (by omega) hml hB hbl hq (hgo hq).1 (hgo hq).2 (Lib.hid hM)
  · subst heq
    exact rnext_end s a w hs ha hb
end Go.Proofs.YtbhekkkijomglaaGreatDoor
