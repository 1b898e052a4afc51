/- The walk of the reference's run: brackets and words. -/
import Derived.Test.YtckmhbgpaiocbaaGreatDoorRefP
import Derived.Test.YtckmhbgpaiocbaaGreatDoorRefB
namespace Go.Proofs.YtckmhbgpaiocbaaGreatDoor
open Go.RowKit

/-- What run returns. -/
def RunR (w : World) (g : Got) (e : Ending) (w' : World) : Prop :=
  e = .returned (.tuple #[.agg #[.int .u8 g.1.1, .int .i64 0, .int .i64 0, .int .i64 g.1.2.1, .string (bs g.1.2.2)], .int .i64 g.2]) ∧ Below w.heap.size w w'
theorem nothing : bs [] = ⟨#[]⟩ := rfl

set_option maxRecDepth 100000 in
set_option maxHeartbeats 1000000 in
theorem run_bracket (s : ByteArray) (w : World) (h1 : s.size = 1) (hb : brB (s[0]'(by omega)) = true) :
    Calls Tryz.prog 35 #[.string s] w (RunR w ((brK (s[0]'(by omega)), 0, []), 0)) := by
  have hp : 0 < s.size := by omega
  have hk : 0 < brK s[0] := of_decide_eq_true hb
  have hk6 := brK_le s[0]
  have hs1 : ((s.size : Int) == 1) = true := beq_iff_eq.2 (by omega)
  have BB := fun W => rbracket_any s[0] W
  generalize brK s[0] = q at *
  have HB := Lib.hid BB
  clear BB hb
  have hq : (0 : Int) < (q : Int) := by omega
  have hq2 : (q : Int) ≤ 6 := by omega
  have H1 := Lib.hid h1; clear h1
  unfold RunR
  go_enter Tryz.func35, Tryz.ntmps35
  go_wp2_with (go_at_call 34; refine (HB.out _).mono ?_; rintro e w' ⟨rfl, rfl⟩)
  refine bodyPost_ret (v := .tuple #[.agg #[.int .u8 q, .int .i64 0, .int .i64 0, .int .i64 0, .string ⟨#[]⟩], .int .i64 0]) (by simp [results, Tryz.results35, go_sem]) rfl ⟨rfl, (Below.refl _ _).alloc (Nat.le_refl _) _⟩

/-- The first question of run is answered by no. -/
def NoBr (s : ByteArray) : Prop := ∃ h : 0 < s.size, ((s.size : Int) == 1) = false ∨ (((s.size : Int) == 1) = true ∧ brK s[0] = 0)
theorem run_front {s : ByteArray} (h : NoBr s) : ∃ h0 : 0 < s.size, ((s.size : Int) == 1) = false ∨ (((s.size : Int) == 1) = true ∧ ∀ W, Calls Tryz.prog 34 #[.int .u8 (s[0].toNat : Nat)] W fun e w' => e = .returned (.int .u8 0) ∧ W = w') := by
  obtain ⟨h0, h1⟩ := h
  refine ⟨h0, h1.imp id fun k => ⟨k.1, fun W => ?_⟩⟩
  have := rbracket_any s[0] W
  rw [k.2] at this
  exact this

set_option maxRecDepth 100000 in
set_option maxHeartbeats 1000000 in
theorem run_word (s : ByteArray) (w : World) (hs : s.size ≤ 20000) (h : NoBr s) (hl : s.data.toList.all letB = true) :
    Calls Tryz.prog 35 #[.string s] w (RunR w ((7, 0, s.data.toList), 0)) := by
  obtain ⟨h0, hf⟩ := run_front h
  have hD : ∀ k, (hk : k < s.size) → letB s[k] = true := fun k hk => List.all_eq_true.1 hl _ (List.mem_of_getElem? (data_get s k hk))
  have hL : ∀ k, (hk : k < s.size) → ∀ W, Calls Tryz.prog 54 #[.int .u8 (s[k].toNat : Nat)] W fun e w' => e = .returned (.bool true) ∧ W = w' := fun k hk W => rletter_any s[k] W true (hD k hk)
  have HLT := Lib.hid hL
  clear hD hL h hl
  unfold RunR
  rw [bs_of]
  rcases hf with hf | ⟨hf, hbr⟩
  · go_enter Tryz.func35, Tryz.ntmps35
    go_wp2_with (go_at_call 54; refine (HLT.out 0 h0 _).mono ?_; rintro e w' ⟨rfl, rfl⟩)
    go_loop [4] (fun i => ∃ k : Nat, k ≤ s.size ∧ i = .int .i64 k) (fun i => s.size - (intOf i).toNat)
    case atStart => exact ⟨0, Nat.zero_le _, rfl⟩
    case round =>
      obtain ⟨k, hk, rfl⟩ := hrel
      by_cases hlt : k < s.size
      · go_wp2_with (go_at_call 54; refine (HLT.out k hlt _).mono ?_; rintro e w' ⟨rfl, rfl⟩)
        go_round
        case rel => exact ⟨k + 1, by omega, by go_num⟩
        case measure => simp [intOf] <;> omega
      · obtain rfl : k = s.size := by omega
        go_wp2_with fail
        refine bodyPost_ret (v := .tuple #[.agg #[.int .u8 7, .int .i64 0, .int .i64 0, .int .i64 0, .string s], .int .i64 0]) (by simp [results, Tryz.results35, go_sem]) rfl ⟨rfl, (Below.refl _ _).alloc (Nat.le_refl _) _⟩
  · have HBR := Lib.hid hbr; clear hbr
    go_enter Tryz.func35, Tryz.ntmps35
    go_wp2_with (first
      | (go_at_call 34; refine (HBR.out _).mono ?_; rintro e w' ⟨rfl, rfl⟩)
      | (go_at_call 54; refine (HLT.out 0 h0 _).mono ?_; rintro e w' ⟨rfl, rfl⟩))
    go_loop [4] (fun i => ∃ k : Nat, k ≤ s.size ∧ i = .int .i64 k) (fun i => s.size - (intOf i).toNat)
    case atStart => exact ⟨0, Nat.zero_le _, rfl⟩
    case round =>
      obtain ⟨k, hk, rfl⟩ := hrel
      by_cases hlt : k < s.size
      · go_wp2_with (go_at_call 54; refine (HLT.out k hlt _).mono ?_; rintro e w' ⟨rfl, rfl⟩)
        go_round
        case rel => exact ⟨k + 1, by omega, by go_num⟩
        case measure => simp [intOf] <;> omega
      · obtain rfl : k = s.size := by omega
        go_wp2_with fail
        refine bodyPost_ret (v := .tuple #[.agg #[.int .u8 7, .int .i64 0, .int .i64 0, .int .i64 0, .string s], .int .i64 0]) (by simp [results, Tryz.results35, go_sem]) rfl ⟨rfl, (Below.refl _ _).alloc (Nat.le_refl _) _⟩
end Go.Proofs.YtckmhbgpaiocbaaGreatDoor
