/- Put together: RefB, RefU. -/
import Derived.Test.YtbhekkkijomglaaGreatDoorRefL
import Derived.Test.YtbhekkkijomglaaGreatDoorLexP
import Derived.Test.YtbhekkkijomglaaGreatDoorRefP
import Derived.Handy
namespace Go.Proofs.YtbhekkkijomglaaGreatDoor
/-! The walks of the reference's small questions on bytes: bracket, blank, letter, digit; Is (bits). -/
section
open Go.RowKit

theorem ne_byte {b : UInt8} (n : Nat) (hn : n < 256) (h : ¬ b.toNat = n) : (((n : Nat) : Int) == (b.toNat : Int)) = false := beq_eq_false_iff_ne.2 (by omega)
set_option maxRecDepth 100000 in
set_option maxHeartbeats 1000000 in
theorem rbracket_any (b : UInt8) (w : World) : Calls Tryz.prog 53 #[.int .u8 b.toNat] w fun e w' => e = .returned (.int .u8 (brK b : Nat)) ∧ w = w' := by
  obtain ⟨q, hq⟩ : ∃ q, q = brK b := ⟨_, rfl⟩
  rw [← hq]
  by_cases h1 : b = 40
  · subst h1; obtain rfl : q = 1 := hq
    go_enter Tryz.func53, Tryz.ntmps53
    go_wp2_with fail
    go_rounds 7
    go_ret
    exact ⟨rfl, rfl⟩
  by_cases h2 : b = 41
  · subst h2; obtain rfl : q = 2 := hq
    go_enter Tryz.func53, Tryz.ntmps53
    go_wp2_with fail
    go_rounds 7
    go_ret
    exact ⟨rfl, rfl⟩
  by_cases h3 : b = 91
  · subst h3; obtain rfl : q = 3 := hq
    go_enter Tryz.func53, Tryz.ntmps53
    go_wp2_with fail
    go_rounds 7
    go_ret
    exact ⟨rfl, rfl⟩
  by_cases h4 : b = 93
  · subst h4; obtain rfl : q = 4 := hq
    go_enter Tryz.func53, Tryz.ntmps53
    go_wp2_with fail
    go_rounds 7
    go_ret
    exact ⟨rfl, rfl⟩
  by_cases h5 : b = 60
  · subst h5; obtain rfl : q = 5 := hq
    go_enter Tryz.func53, Tryz.ntmps53
    go_wp2_with fail
    go_rounds 7
    go_ret
    exact ⟨rfl, rfl⟩
  by_cases h6 : b = 62
  · subst h6; obtain rfl : q = 6 := hq
    go_enter Tryz.func53, Tryz.ntmps53
    go_wp2_with fail
    go_rounds 7
    go_ret
    exact ⟨rfl, rfl⟩
  obtain rfl : q = 0 := by rw [hq]; simp [brK, h1, h2, h3, h4, h5, h6]
  have k1 : ((40 : Int) == (b.toNat : Int)) = false := beq_eq_false_iff_ne.2 fun e => h1 (UInt8.toNat_inj.1 (show b.toNat = 40 by omega))
  have k2 : ((41 : Int) == (b.toNat : Int)) = false := beq_eq_false_iff_ne.2 fun e => h2 (UInt8.toNat_inj.1 (show b.toNat = 41 by omega))
  have k3 : ((91 : Int) == (b.toNat : Int)) = false := beq_eq_false_iff_ne.2 fun e => h3 (UInt8.toNat_inj.1 (show b.toNat = 91 by omega))
  have k4 : ((93 : Int) == (b.toNat : Int)) = false := beq_eq_false_iff_ne.2 fun e => h4 (UInt8.toNat_inj.1 (show b.toNat = 93 by omega))
  have k5 : ((60 : Int) == (b.toNat : Int)) = false := beq_eq_false_iff_ne.2 fun e => h5 (UInt8.toNat_inj.1 (show b.toNat = 60 by omega))
  have k6 : ((62 : Int) == (b.toNat : Int)) = false := beq_eq_false_iff_ne.2 fun e => h6 (UInt8.toNat_inj.1 (show b.toNat = 62 by omega))
  have e0 : ((⟨#[40, 41, 91, 93, 60, 62]⟩ : ByteArray)[0]'(by decide)).toNat = 40 := rfl
  have e1 : ((⟨#[40, 41, 91, 93, 60, 62]⟩ : ByteArray)[1]'(by decide)).toNat = 41 := rfl
  have e2 : ((⟨#[40, 41, 91, 93, 60, 62]⟩ : ByteArray)[2]'(by decide)).toNat = 91 := rfl
  have e3 : ((⟨#[40, 41, 91, 93, 60, 62]⟩ : ByteArray)[3]'(by decide)).toNat = 93 := rfl
  have e4 : ((⟨#[40, 41, 91, 93, 60, 62]⟩ : ByteArray)[4]'(by decide)).toNat = 60 := rfl
  have e5 : ((⟨#[40, 41, 91, 93, 60, 62]⟩ : ByteArray)[5]'(by decide)).toNat = 62 := rfl
  clear hq h1 h2 h3 h4 h5 h6
  go_enter Tryz.func53, Tryz.ntmps53
  go_wp2_with fail
  go_rounds 7
  go_ret
  exact ⟨rfl, rfl⟩

theorem rblank_any (b : UInt8) (w : World) (q : Bool) (hq : blankB b = q) : Calls Tryz.prog 52 #[.int .u8 b.toNat] w fun e w' => e = .returned (.bool q) ∧ w = w' := by
  by_cases h1 : b = 32
  · subst h1; obtain rfl : q = true := hq.symm
    go_enter Tryz.func52, Tryz.ntmps52
    go_wp2
    go_ret
    exact ⟨rfl, rfl⟩
  by_cases h2 : b = 10
  · subst h2; obtain rfl : q = true := hq.symm
    go_enter Tryz.func52, Tryz.ntmps52
    go_wp2
    go_ret
    exact ⟨rfl, rfl⟩
  obtain rfl : q = false := by rw [← hq]; simp [blankB, h1, h2]
  have k1 : ((b.toNat : Int) == 32) = false := beq_eq_false_iff_ne.2 fun e => h1 (UInt8.toNat_inj.1 (show b.toNat = 32 by omega))
  have k2 : ((b.toNat : Int) == 10) = false := beq_eq_false_iff_ne.2 fun e => h2 (UInt8.toNat_inj.1 (show b.toNat = 10 by omega))
  clear hq h1 h2
  go_enter Tryz.func52, Tryz.ntmps52
  go_wp2
  go_ret
  exact ⟨rfl, rfl⟩

theorem rletter_any (b : UInt8) (w : World) (q : Bool) (hq : letB b = q) : Calls Tryz.prog 76 #[.int .u8 b.toNat] w fun e w' => e = .returned (.bool q) ∧ w = w' := by
  rcases (by omega : b.toNat < 97 ∨ 122 < b.toNat ∨ (97 ≤ b.toNat ∧ b.toNat ≤ 122)) with h | h | h
  · obtain rfl : q = false := by rw [← hq]; exact letB_no b (.inl (by omega))
    have k1 : (b.toNat : Int) < 97 := by omega
    clear hq
    go_enter Tryz.func76, Tryz.ntmps76
    go_wp2
    go_ret
    exact ⟨rfl, rfl⟩
  · obtain rfl : q = false := by rw [← hq]; exact letB_no b (.inr (by omega))
    have k1 : (122 : Int) < (b.toNat : Int) := by omega
    have k2 : (97 : Int) ≤ (b.toNat : Int) := by omega
    clear hq
    go_enter Tryz.func76, Tryz.ntmps76
    go_wp2
    go_ret
    exact ⟨ret_bool (a := decide ((b.toNat : Int) ≤ 122)) (decide_eq_false (by omega)), rfl⟩
  · obtain rfl : q = true := by rw [← hq]; exact letB_yes b (by omega)
    have k1 : (b.toNat : Int) ≤ 122 := by omega
    have k2 : (97 : Int) ≤ (b.toNat : Int) := by omega
    clear hq
    go_enter Tryz.func76, Tryz.ntmps76
    go_wp2
    go_ret
    exact ⟨rfl, rfl⟩
theorem rdigit_any (b : UInt8) (w : World) (q : Bool) (hq : digB b = q) : Calls Tryz.prog 77 #[.int .u8 b.toNat] w fun e w' => e = .returned (.bool q) ∧ w = w' := by
  rcases (by omega : b.toNat < 48 ∨ 57 < b.toNat ∨ (48 ≤ b.toNat ∧ b.toNat ≤ 57)) with h | h | h
  · obtain rfl : q = false := by rw [← hq]; exact digB_no b (.inl (by omega))
    have k1 : (b.toNat : Int) < 48 := by omega
    clear hq
    go_enter Tryz.func77, Tryz.ntmps77
    go_wp2
    go_ret
    exact ⟨rfl, rfl⟩
  · obtain rfl : q = false := by rw [← hq]; exact digB_no b (.inr (by omega))
    have k1 : (57 : Int) < (b.toNat : Int) := by omega
    have k2 : (48 : Int) ≤ (b.toNat : Int) := by omega
    clear hq
    go_enter Tryz.func77, Tryz.ntmps77
    go_wp2
    go_ret
    exact ⟨ret_bool (a := decide ((b.toNat : Int) ≤ 57)) (decide_eq_false (by omega)), rfl⟩
  · obtain rfl : q = true := by rw [← hq]; exact digB_yes b (by omega)
    have k1 : (b.toNat : Int) ≤ 57 := by omega
    have k2 : (48 : Int) ≤ (b.toNat : Int) := by omega
    clear hq
    go_enter Tryz.func77, Tryz.ntmps77
    go_wp2
    go_ret
    exact ⟨rfl, rfl⟩

theorem bit_cases {b : UInt8} (h : bitB b = true) : ((b.toNat : Int) != 48) = false ∨ (((b.toNat : Int) != 48) = true ∧ ((b.toNat : Int) != 49) = false) := by
  simp only [bitB, Bool.or_eq_true, beq_iff_eq] at h
  rcases h with rfl | rfl
  · exact .inl (by decide)
  · exact .inr ⟨by decide, by decide⟩
theorem bit_not {b : UInt8} (h : bitB b = false) : ((b.toNat : Int) != 48) = true ∧ ((b.toNat : Int) != 49) = true := by
  simp only [bitB, Bool.or_eq_false_iff, beq_eq_false_iff_ne, ne_eq] at h
  exact ⟨bne_iff_ne.2 fun e => h.1 (UInt8.toNat_inj.1 (show b.toNat = 48 by omega)), bne_iff_ne.2 fun e => h.2 (UInt8.toNat_inj.1 (show b.toNat = 49 by omega))⟩
set_option maxRecDepth 100000 in
set_option maxHeartbeats 1000000 in
theorem ris_any (s : ByteArray) (w : World) (hs : s.size ≤ maxLen) (q : Bool) (hq : isB s.data.toList = q) : Calls Tryz.prog 80 #[.string s] w fun e w' => e = .returned (.bool q) ∧ w = w' := by
  unfold maxLen at hs
  have hl : s.data.toList.length = s.size := by simp
  have HQ := Lib.hid hq; clear hq
  have HL := Lib.hid hl; clear hl
  by_cases h : 1024 < s.size
  · obtain rfl : q = false := by
      rw [← HQ.out]
      cases hb : isB s.data.toList
      · rfl
      · have := ((isB_iff _).1 hb).1; rw [HL.out] at this; omega
    go_enter Tryz.func80, Tryz.ntmps80
    go_wp2
    go_ret
    exact ⟨rfl, rfl⟩
  · go_enter Tryz.func80, Tryz.ntmps80
    go_wp2
    go_loop [3] (fun i => ∃ k : Nat, k ≤ s.size ∧ i = .int .i64 k ∧ Hid ((s.data.toList.take k).all bitB = true)) (fun i => s.size - (intOf i).toNat)
    case atStart => exact ⟨0, Nat.zero_le _, rfl, rfl⟩
    case round =>
      obtain ⟨k, hk, rfl, HA⟩ := hrel
      by_cases hlt : k < s.size
      · cases hb : bitB s[k] with
        | true =>
          rcases bit_cases hb with hc | ⟨hc, hc2⟩
          all_goals
            go_wp2
            go_round
            case rel => exact ⟨k + 1, by omega, by go_num, all_take_succ bitB s k hlt HA.out hb⟩
            case measure => simp [intOf] <;> omega
        | false =>
          obtain ⟨hc, hc2⟩ := bit_not hb
          obtain rfl : q = false := by
            rw [← HQ.out]
            cases hi : isB s.data.toList
            · rfl
            · have := ((isB_iff _).1 hi).2
              rw [all_bad bitB s k hlt hb] at this
              cases this
          go_wp2
          go_ret
          exact ⟨rfl, rfl⟩
      · obtain rfl : k = s.size := by omega
        obtain rfl : q = true := by
          rw [← HQ.out]
          exact (isB_iff _).2 ⟨by rw [HL.out]; omega, all_done bitB s HA.out⟩
        go_wp2
        go_ret
        exact ⟨rfl, rfl⟩
end

/-! The walk of the reference's run: brackets and words. -/
section
open Go.RowKit

/-- What run returns. -/
def RunR (w : World) (g : Got) (e : Ending) (w' : World) : Prop :=
  e = .returned (.tuple #[.agg #[.int .u8 g.1.1, .int .i64 0, .int .i64 0, .int .i64 g.1.2.1, .string (bs g.1.2.2)], .int .i64 g.2]) ∧ Below w.heap.size w w'
theorem nothing : bs [] = ⟨#[]⟩ := rfl

set_option maxRecDepth 100000 in
set_option maxHeartbeats 1000000 in
theorem run_bracket (s : ByteArray) (w : World) (h1 : s.size = 1) (hb : brB (s[0]'(by omega)) = true) :
    Calls Tryz.prog 54 #[.string s] w (RunR w ((brK (s[0]'(by omega)), 0, []), 0)) := by
  have hp : 0 < s.size := by omega
  have hk : 0 < brK s[0] := of_decide_eq_true hb
  have hk6 := brK_le s[0]
  have hs1 : ((s.size : Int) == 1) = true := beq_iff_eq.2 (by omega)
  have BB := fun W => rbracket_any s[0] W
  generalize brK s[0] = q at *
  have HB := Lib.hid BB
  clear BB hb
  have hq : (0 : Int) < (q : Int) := by omega
  have hq2 : (q : Int) ≤ 6 := by omega
  have H1 := Lib.hid h1; clear h1
  unfold RunR
  go_enter Tryz.func54, Tryz.ntmps54
  go_wp2_with (go_at_call 53; refine (HB.out _).mono ?_; rintro e w' ⟨rfl, rfl⟩)
  refine bodyPost_ret (v := .tuple #[.agg #[.int .u8 q, .int .i64 0, .int .i64 0, .int .i64 0, .string ⟨#[]⟩], .int .i64 0]) (by simp [results, Tryz.results54, go_sem]) rfl ⟨rfl, (Below.refl _ _).alloc (Nat.le_refl _) _⟩

/-- The first question of run is answered by no. -/
def NoBr (s : ByteArray) : Prop := ∃ h : 0 < s.size, ((s.size : Int) == 1) = false ∨ (((s.size : Int) == 1) = true ∧ brK s[0] = 0)
theorem run_front {s : ByteArray} (h : NoBr s) : ∃ h0 : 0 < s.size, ((s.size : Int) == 1) = false ∨ (((s.size : Int) == 1) = true ∧ ∀ W, Calls Tryz.prog 53 #[.int .u8 (s[0].toNat : Nat)] W fun e w' => e = .returned (.int .u8 0) ∧ W = w') := by
  obtain ⟨h0, h1⟩ := h
  refine ⟨h0, h1.imp id fun k => ⟨k.1, fun W => ?_⟩⟩
  have := rbracket_any s[0] W
  rw [k.2] at this
  exact this

set_option maxRecDepth 100000 in
set_option maxHeartbeats 1000000 in
theorem run_word (s : ByteArray) (w : World) (hs : s.size ≤ 20000) (h : NoBr s) (hl : s.data.toList.all letB = true) :
    Calls Tryz.prog 54 #[.string s] w (RunR w ((7, 0, s.data.toList), 0)) := by
  obtain ⟨h0, hf⟩ := run_front h
  have hD : ∀ k, (hk : k < s.size) → letB s[k] = true := fun k hk => List.all_eq_true.1 hl _ (List.mem_of_getElem? (data_get s k hk))
  have hL : ∀ k, (hk : k < s.size) → ∀ W, Calls Tryz.prog 76 #[.int .u8 (s[k].toNat : Nat)] W fun e w' => e = .returned (.bool true) ∧ W = w' := fun k hk W => rletter_any s[k] W true (hD k hk)
  have HLT := Lib.hid hL
  clear hD hL h hl
  unfold RunR
  rw [bs_of]
  rcases hf with hf | ⟨hf, hbr⟩
  · go_enter Tryz.func54, Tryz.ntmps54
    go_wp2_with (go_at_call 76; refine (HLT.out 0 h0 _).mono ?_; rintro e w' ⟨rfl, rfl⟩)
    go_loop [4] (fun i => ∃ k : Nat, k ≤ s.size ∧ i = .int .i64 k) (fun i => s.size - (intOf i).toNat)
    case atStart => exact ⟨0, Nat.zero_le _, rfl⟩
    case round =>
      obtain ⟨k, hk, rfl⟩ := hrel
      by_cases hlt : k < s.size
      · go_wp2_with (go_at_call 76; refine (HLT.out k hlt _).mono ?_; rintro e w' ⟨rfl, rfl⟩)
        go_round
        case rel => exact ⟨k + 1, by omega, by go_num⟩
        case measure => simp [intOf] <;> omega
      · obtain rfl : k = s.size := by omega
        go_wp2_with fail
        refine bodyPost_ret (v := .tuple #[.agg #[.int .u8 7, .int .i64 0, .int .i64 0, .int .i64 0, .string s], .int .i64 0]) (by simp [results, Tryz.results54, go_sem]) rfl ⟨rfl, (Below.refl _ _).alloc (Nat.le_refl _) _⟩
  · have HBR := Lib.hid hbr; clear hbr
    go_enter Tryz.func54, Tryz.ntmps54
    go_wp2_with (first
      | (go_at_call 53; refine (HBR.out _).mono ?_; rintro e w' ⟨rfl, rfl⟩)
      | (go_at_call 76; refine (HLT.out 0 h0 _).mono ?_; rintro e w' ⟨rfl, rfl⟩))
    go_loop [4] (fun i => ∃ k : Nat, k ≤ s.size ∧ i = .int .i64 k) (fun i => s.size - (intOf i).toNat)
    case atStart => exact ⟨0, Nat.zero_le _, rfl⟩
    case round =>
      obtain ⟨k, hk, rfl⟩ := hrel
      by_cases hlt : k < s.size
      · go_wp2_with (go_at_call 76; refine (HLT.out k hlt _).mono ?_; rintro e w' ⟨rfl, rfl⟩)
        go_round
        case rel => exact ⟨k + 1, by omega, by go_num⟩
        case measure => simp [intOf] <;> omega
      · obtain rfl : k = s.size := by omega
        go_wp2_with fail
        refine bodyPost_ret (v := .tuple #[.agg #[.int .u8 7, .int .i64 0, .int .i64 0, .int .i64 0, .string s], .int .i64 0]) (by simp [results, Tryz.results54, go_sem]) rfl ⟨rfl, (Below.refl _ _).alloc (Nat.le_refl _) _⟩
end
end Go.Proofs.YtbhekkkijomglaaGreatDoor
