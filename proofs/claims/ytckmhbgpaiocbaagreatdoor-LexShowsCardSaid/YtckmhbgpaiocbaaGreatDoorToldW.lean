/- The walks of told, given, long, moved, Same: marks in memory, copied, counted, moved, held against each other. -/
import Derived.Test.YtckmhbgpaiocbaaGreatDoorLexW7
import Derived.RegionTactic
import Derived.ChangeAlike
import Derived.BigRegion
namespace Go.Proofs.YtckmhbgpaiocbaaGreatDoor
open Go.RowKit

/-- A slice's value holds marks. -/
def Msl (w : World) (A : Option Addr) (ms : List MarkZ) : Prop := ms ≠ [] → ∃ g o, A = some ⟨g, o, none⟩ ∧ MarksAt w g o ms
theorem Msl.nil (w : World) (A : Option Addr) : Msl w A [] := fun h => absurd rfl h
theorem Msl.below {w w' : World} {A : Option Addr} {ms : List MarkZ} (h : Msl w A ms) (hb : Below w.heap.size w w') : Msl w' A ms := fun hn => by
  obtain ⟨g, o, e, hat⟩ := h hn
  exact ⟨g, o, e, hat.below hb (Nat.le_refl _)⟩
/-- An owned row of marks: its value's form, and where the marks stand. -/
theorem own_msl {w : World} {B : Nat} {T : TypeId} {v : Value} {ms : List MarkZ} (h : w.ownsRow B T 5 v ms.length (cellsZ ms)) :
    ∃ A c, v = .slice A ms.length c ∧ Msl w A ms := by
  rcases Nat.eq_zero_or_pos ms.length with h0 | h0
  · have hnil : ms = [] := List.length_eq_zero_iff.1 h0
    subst hnil
    rcases h.2 with ⟨hv, _⟩ | ⟨g, cap, cur, hv, _⟩
    · exact ⟨none, 0, hv, Msl.nil _ _⟩
    · exact ⟨_, cap, hv, Msl.nil _ _⟩
  · obtain ⟨g, cap, rfl, hg⟩ := h.form h0
    refine ⟨_, cap, rfl, fun _ => ⟨g, 0, rfl, ⟨fun _ => hg.2, fun j u hj => ?_⟩⟩⟩
    have h1 := h.cells (g := g) rfl j u hj
    by_cases hj0 : j = 0
    · subst hj0; simpa [Addr.add] using h1
    · simpa [Addr.add, hj0] using h1
theorem cellsZ_snoc (l : List MarkZ) (m : MarkZ) : cellsZ (l ++ [m]) = cellsZ l ++ zCells m := by unfold cellsZ; rw [List.flatMap_append]; simp
theorem take_snoc_z (l : List MarkZ) (k : Nat) (m : MarkZ) (h : l[k]? = some m) : l.take (k + 1) = l.take k ++ [m] := by
  rw [List.take_add_one, h]; rfl

set_option maxRecDepth 100000 in
set_option maxHeartbeats 1000000 in
theorem told_any (ms : List MarkZ) (A : Option Addr) (c : Nat) (w : World) (hn : ms.length ≤ 1048576) (hA : Msl w A ms) :
    Calls Tryz.prog 11 #[.slice A ms.length c] w fun e w' => ∃ v, e = .returned v ∧ w'.ownsRow w.heap.size 32 5 v ms.length (cellsZ ms) ∧ Below w.heap.size w w' := by
  obtain ⟨i0, hi, hz0, hz1, hz2⟩ := info_parts (P := Tryz.prog) (e := 32) (z := .agg #[.int .u8 0, .int .i64 0, .int .i64 0, .int .i64 0, .string ⟨#[]⟩]) (size := 5) (bytes := 48) (by kernel_rfl)
  have HU : Tryz.prog.underlying 37 = some (.slice 32) := by kernel_rfl
  go_enter Tryz.func11, Tryz.ntmps11
  go_wp2_with fail
  go_loopw [3, 4] (fun v i wr => ∃ k : Nat, k ≤ ms.length ∧ i = .int .i64 k ∧ wr.ownsRow w.heap.size 32 5 v k (cellsZ (ms.take k)) ∧ Below w.heap.size w wr) (fun _ i _ => ms.length - (intOf i).toNat)
  case atStart => exact ⟨0, Nat.zero_le _, rfl, World.ownsRow_nil _ _ _ _, Below.refl _ _⟩
  case round =>
    obtain ⟨k, hk, rfl, hown, hbw⟩ := hrel
    by_cases hlt : k < ms.length
    · obtain ⟨m, hm⟩ : ∃ m, ms[k]? = some m := ⟨ms[k], List.getElem?_eq_getElem hlt⟩
      obtain ⟨g, o, rfl, hat⟩ := hA (by intro h; rw [h] at hlt; simp at hlt)
      have hat1 := hat.below hbw (Nat.le_refl _)
      obtain ⟨c0, c1, c2, c3, c4⟩ := hat1.five hm
      have HT := Lib.hid (take_snoc_z ms k m hm)
      clear hm hat hat1
      obtain ⟨kk, a, e, n, l⟩ := m
      simp only at c0 c1 c2 c3 c4
      go_wp2_with (first
        | (at_builtin; refine wpList_append_own _ rfl _ _ 37 rfl w.heap.size 32 i0 (.agg #[.int .u8 0, .int .i64 0, .int .i64 0, .int .i64 0, .string ⟨#[]⟩]) 5 48 HU hi hz0 hz1 hz2 rfl (by decide) _ _ _ rfl (hown.alloc _) ⟨wr.heap.size, 0, none⟩ 1 1 [.int .u8 kk, .int .i64 a, .int .i64 e, .int .i64 n, .string (bs l)] rfl rfl ?_ ?_ ?_ ?_ ?_ ?_
           · exact cell_five_new _ _ _ _ _ _ _
           · exact (fun x hx => by simp at hx; rcases hx with rfl | rfl | rfl | rfl | rfl <;> rfl)
           · unfold maxLen; omega
           · omega
           · have := hbw.size; simp at this ⊢; omega
           intro v' w3 hown' hgrow3 hnil3
           have hal := hown.alloc (.cells #[.int .u8 kk, .int .i64 a, .int .i64 e, .int .i64 n, .string (bs l)] 32)
           have hbw3 := Below.grown (hbw.alloc hbw.size (.cells #[.int .u8 kk, .int .i64 a, .int .i64 e, .int .i64 n, .string (bs l)] 32)) hgrow3 (Nat.le_trans hbw.size (by simp)) (fun j hj => (hal.lt _ hj).1)
           have X := Lib.hid (And.intro hown' hbw3)
           clear hown' hbw3 hgrow3 hnil3 hal))
      go_roundw
      case rel => exact ⟨k + 1, by omega, by go_num, by rw [HT.out, cellsZ_snoc]; exact X.out.1, X.out.2⟩
      case measure => simp [intOf]; omega
    · obtain rfl : k = ms.length := by omega
      rw [List.take_length] at hown
      go_wp2_with fail
      go_ret
      exact ⟨_, rfl, hown, hbw⟩

set_option maxRecDepth 100000 in
set_option maxHeartbeats 1000000 in
theorem given_any (ms : List MarkZ) (A : Option Addr) (c : Nat) (w : World) (hn : ms.length ≤ 1048576) (hA : Msl w A ms) :
    Calls Tryz.prog 9 #[.slice A ms.length c] w fun e w' => ∃ v, e = .returned v ∧ w'.ownsRow w.heap.size 30 5 v ms.length (cellsZ ms) ∧ Below w.heap.size w w' := by
  obtain ⟨i0, hi, hz0, hz1, hz2⟩ := info_parts (P := Tryz.prog) (e := 30) (z := .agg #[.int .u8 0, .int .i64 0, .int .i64 0, .int .i64 0, .string ⟨#[]⟩]) (size := 5) (bytes := 48) (by kernel_rfl)
  have HU : Tryz.prog.underlying 34 = some (.slice 30) := by kernel_rfl
  go_enter Tryz.func9, Tryz.ntmps9
  go_wp2_with fail
  go_loopw [3, 4] (fun v i wr => ∃ k : Nat, k ≤ ms.length ∧ i = .int .i64 k ∧ wr.ownsRow w.heap.size 30 5 v k (cellsZ (ms.take k)) ∧ Below w.heap.size w wr) (fun _ i _ => ms.length - (intOf i).toNat)
  case atStart => exact ⟨0, Nat.zero_le _, rfl, World.ownsRow_nil _ _ _ _, Below.refl _ _⟩
  case round =>
    obtain ⟨k, hk, rfl, hown, hbw⟩ := hrel
    by_cases hlt : k < ms.length
    · obtain ⟨m, hm⟩ : ∃ m, ms[k]? = some m := ⟨ms[k], List.getElem?_eq_getElem hlt⟩
      obtain ⟨g, o, rfl, hat⟩ := hA (by intro h; rw [h] at hlt; simp at hlt)
      have hat1 := hat.below hbw (Nat.le_refl _)
      obtain ⟨c0, c1, c2, c3, c4⟩ := hat1.five hm
      have HT := Lib.hid (take_snoc_z ms k m hm)
      clear hm hat hat1
      obtain ⟨kk, a, e, n, l⟩ := m
      simp only at c0 c1 c2 c3 c4
      go_wp2_with (first
        | (at_builtin; refine wpList_append_own _ rfl _ _ 34 rfl w.heap.size 30 i0 (.agg #[.int .u8 0, .int .i64 0, .int .i64 0, .int .i64 0, .string ⟨#[]⟩]) 5 48 HU hi hz0 hz1 hz2 rfl (by decide) _ _ _ rfl (hown.alloc _) ⟨wr.heap.size, 0, none⟩ 1 1 [.int .u8 kk, .int .i64 a, .int .i64 e, .int .i64 n, .string (bs l)] rfl rfl ?_ ?_ ?_ ?_ ?_ ?_
           · exact cell_five_new _ _ _ _ _ _ _
           · exact (fun x hx => by simp at hx; rcases hx with rfl | rfl | rfl | rfl | rfl <;> rfl)
           · unfold maxLen; omega
           · omega
           · have := hbw.size; simp at this ⊢; omega
           intro v' w3 hown' hgrow3 hnil3
           have hal := hown.alloc (.cells #[.int .u8 kk, .int .i64 a, .int .i64 e, .int .i64 n, .string (bs l)] 30)
           have hbw3 := Below.grown (hbw.alloc hbw.size (.cells #[.int .u8 kk, .int .i64 a, .int .i64 e, .int .i64 n, .string (bs l)] 30)) hgrow3 (Nat.le_trans hbw.size (by simp)) (fun j hj => (hal.lt _ hj).1)
           have X := Lib.hid (And.intro hown' hbw3)
           clear hown' hbw3 hgrow3 hnil3 hal))
      go_roundw
      case rel => exact ⟨k + 1, by omega, by go_num, by rw [HT.out, cellsZ_snoc]; exact X.out.1, X.out.2⟩
      case measure => simp [intOf]; omega
    · obtain rfl : k = ms.length := by omega
      rw [List.take_length] at hown
      go_wp2_with fail
      go_ret
      exact ⟨_, rfl, hown, hbw⟩
end Go.Proofs.YtckmhbgpaiocbaaGreatDoor
