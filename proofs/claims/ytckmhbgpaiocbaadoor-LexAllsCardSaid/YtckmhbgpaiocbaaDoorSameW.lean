/- The walk of Same, where the marks are the same. -/
import Derived.Test.YtckmhbgpaiocbaaDoorToldW
import Derived.Test.YtckmhbgpaiocbaaDoorLexQ
import Derived.Handy
namespace Go.Proofs.YtckmhbgpaiocbaaDoor
open Go.RowKit

theorem strip_eq {a b : MarkZ} (h : stripZ a = stripZ b) : a.1 = b.1 ∧ a.2.2.2.1 = b.2.2.2.1 ∧ a.2.2.2.2 = b.2.2.2.2 := by
  unfold stripZ at h
  simp only [Prod.mk.injEq, true_and] at h
  exact h

set_option maxRecDepth 100000 in
set_option maxHeartbeats 1000000 in
theorem same_places (ms : List MarkZ) (A B : Option Addr) (c d : Nat) (w : World) (hn : ms.length ≤ 1048576) (hA : Msl w A ms) (hB : Msl w B ms) :
    Calls Tryd.prog 16 #[.slice A ms.length c, .slice B ms.length d, .bool true] w fun e w' => e = .returned (.bool true) ∧ Below w.heap.size w w' := by
  go_enter Tryd.func16, Tryd.ntmps16
  go_wp2_with fail
  go_loopw [7] (fun i wr => ∃ k : Nat, k ≤ ms.length ∧ i = .int .i64 k ∧ Below w.heap.size w wr) (fun i _ => ms.length - (intOf i).toNat)
  case atStart => exact ⟨0, Nat.zero_le _, rfl, Below.refl _ _⟩
  case round =>
    obtain ⟨k, hk, rfl, hbw⟩ := hrel
    by_cases hlt : k < ms.length
    · obtain ⟨m, hm⟩ : ∃ m, ms[k]? = some m := ⟨ms[k], List.getElem?_eq_getElem hlt⟩
      have hne : ms ≠ [] := by intro h; rw [h] at hlt; simp at hlt
      obtain ⟨g, o, rfl, hat⟩ := hA hne
      obtain ⟨g', o', rfl, hat'⟩ := hB hne
      have hg := Nat.lt_of_lt_of_le (hat.lt hne) hbw.size
      have hg' := Nat.lt_of_lt_of_le (hat'.lt hne) hbw.size
      obtain ⟨c0, c1, c2, c3, c4⟩ := (hat.below hbw (Nat.le_refl _)).five hm
      obtain ⟨d0, d1, d2, d3, d4⟩ := (hat'.below hbw (Nat.le_refl _)).five hm
      clear hm hat hat' hA hB
      obtain ⟨kk, a, e, n, l⟩ := m
      simp only at c0 c1 c2 c3 c4 d0 d1 d2 d3 d4
      have i0 : (0 : Int) ≤ (k : Int) := by omega
      have i1 : (k : Int) < (ms.length : Int) := by omega
      go_wp2_with fail
      go_region
      all_goals
        go_wp2_with fail
        go_roundw
        case rel => exact ⟨k + 1, by omega, by go_num, hbw.trans ((show Below wr.heap.size wr _ by go_grown).mono hbw.size)⟩
        case measure => simp [intOf]; omega
    · obtain rfl : k = ms.length := by omega
      go_wp2_with fail
      go_ret
      exact ⟨rfl, hbw⟩

set_option maxRecDepth 100000 in
set_option maxHeartbeats 1000000 in
theorem same_strip (ms ns : List MarkZ) (A B : Option Addr) (c d : Nat) (w : World) (hn : ms.length ≤ 1048576) (hA : Msl w A ms) (hB : Msl w B ns) (hs : ms.map stripZ = ns.map stripZ) :
    Calls Tryd.prog 16 #[.slice A ms.length c, .slice B ms.length d, .bool false] w fun e w' => e = .returned (.bool true) ∧ Below w.heap.size w w' := by
  have hl : ms.length = ns.length := by have := congrArg List.length hs; simpa using this
  have HS := Lib.hid hs; clear hs
  go_enter Tryd.func16, Tryd.ntmps16
  have HLN := Lib.hid hl; clear hl
  go_wp2_with fail
  go_loopw [7] (fun i wr => ∃ k : Nat, k ≤ ms.length ∧ i = .int .i64 k ∧ Below w.heap.size w wr) (fun i _ => ms.length - (intOf i).toNat)
  case atStart => exact ⟨0, Nat.zero_le _, rfl, Below.refl _ _⟩
  case round =>
    obtain ⟨k, hk, rfl, hbw⟩ := hrel
    by_cases hlt : k < ms.length
    · obtain ⟨m, hm⟩ : ∃ m, ms[k]? = some m := ⟨ms[k], List.getElem?_eq_getElem hlt⟩
      have hne : ms ≠ [] := by intro h; rw [h] at hlt; simp at hlt
      obtain ⟨g, o, rfl, hat⟩ := hA hne
      obtain ⟨m', hm'⟩ : ∃ m', ns[k]? = some m' := ⟨ns[k], List.getElem?_eq_getElem (by have := HLN.out; omega)⟩
      have hne' : ns ≠ [] := by intro h; rw [h] at hm'; simp at hm'
      obtain ⟨g', o', rfl, hat'⟩ := hB hne'
      have hg := Nat.lt_of_lt_of_le (hat.lt hne) hbw.size
      have hg' := Nat.lt_of_lt_of_le (hat'.lt hne') hbw.size
      obtain ⟨c0, c1, c2, c3, c4⟩ := (hat.below hbw (Nat.le_refl _)).five hm
      obtain ⟨d0, d1, d2, d3, d4⟩ := (hat'.below hbw (Nat.le_refl _)).five hm'
      have he : stripZ m = stripZ m' := by
        have h1 := congrArg (fun l => l[k]?) HS.out
        simp only [List.getElem?_map, hm, hm', Option.map_some, Option.some.injEq] at h1
        exact h1
      obtain ⟨e1, e2, e3⟩ := strip_eq he
      clear hm hm' hat hat' hA hB he
      obtain ⟨kk, a, e, n, l⟩ := m
      obtain ⟨kk', a', e', n', l'⟩ := m'
      simp only at e1 e2 e3
      subst e1 e2 e3
      simp only at c0 c1 c2 c3 c4 d0 d1 d2 d3 d4
      have i0 : (0 : Int) ≤ (k : Int) := by omega
      have i1 : (k : Int) < (ms.length : Int) := by omega
      go_wp2_with fail
      go_region
      all_goals
        go_wp2_with fail
        go_roundw
        case rel => exact ⟨k + 1, by omega, by go_num, hbw.trans ((show Below wr.heap.size wr _ by go_grown).mono hbw.size)⟩
        case measure => simp [intOf]; omega
    · obtain rfl : k = ms.length := by omega
      go_wp2_with fail
      go_ret
      exact ⟨rfl, hbw⟩
end Go.Proofs.YtckmhbgpaiocbaaDoor
