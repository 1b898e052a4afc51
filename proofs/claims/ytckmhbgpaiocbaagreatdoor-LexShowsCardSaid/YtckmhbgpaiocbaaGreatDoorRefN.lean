/- The walks of the references' naturals: cut, Join, Digits, Trim, Small. -/
import Derived.Test.YtckmhbgpaiocbaaGreatDoorBase
import Derived.Test.YtckmhbgpaiocbaaGreatDoorDigs
import Derived.Test.YtckmhbgpaiocbaaGreatDoorLexW4
import Derived.OwnWalk
import Derived.WalkSpells
import Derived.WalkLawsBesides
import Derived.Laws.AppendOwn
namespace Go.Proofs.YtckmhbgpaiocbaaGreatDoor
open Go.RowKit

def uCells (xs : List Nat) : List Value := xs.map fun (x : Nat) => Value.int .u64 (x : Int)
theorem uCells_append (a b : List Nat) : uCells (a ++ b) = uCells a ++ uCells b := by unfold uCells; exact List.map_append
theorem uCells_length (a : List Nat) : (uCells a).length = a.length := by unfold uCells; exact List.length_map _
/-- A slice's value holds numbers. -/
def Nsl (w : World) (A : Option Addr) (xs : List Nat) : Prop := xs ≠ [] → ∃ g o, A = some ⟨g, o, none⟩ ∧ g < w.heap.size ∧ ∀ (k x : Nat), xs[k]? = some x → w.cell? ⟨g, o + k, none⟩ = some (.int .u64 x)
theorem Nsl.nil (w : World) (A : Option Addr) : Nsl w A [] := fun h => absurd rfl h
theorem Nsl.below {w w' : World} {A : Option Addr} {xs : List Nat} (h : Nsl w A xs) (hb : Below w.heap.size w w') : Nsl w' A xs := fun hn => by
  obtain ⟨g, o, e, hg, hc⟩ := h hn
  exact ⟨g, o, e, Nat.lt_of_lt_of_le hg hb.size, fun k x hx => by rw [hb.cell (p := ⟨g, o + k, none⟩) hg]; exact hc k x hx⟩
theorem Nsl.take {w : World} {A : Option Addr} {xs : List Nat} (h : Nsl w A xs) (n : Nat) : Nsl w A (xs.take n) := fun hn => by
  have hne : xs ≠ [] := by intro e; rw [e] at hn; simp at hn
  obtain ⟨g, o, e, hg, hc⟩ := h hne
  refine ⟨g, o, e, hg, fun k x hx => hc k x ?_⟩
  rw [List.getElem?_take] at hx
  split at hx
  · exact hx
  · cases hx
theorem own_nsl {w : World} {B : Nat} {T : TypeId} {v : Value} {xs : List Nat} (h : w.ownsRow B T 1 v xs.length (uCells xs)) :
    ∃ A c, v = .slice A xs.length c ∧ Nsl w A xs ∧ xs.length ≤ c := by
  rcases Nat.eq_zero_or_pos xs.length with h0 | h0
  · have hnil : xs = [] := List.length_eq_zero_iff.1 h0
    subst hnil
    rcases h.2 with ⟨hv, _⟩ | ⟨g, cap, cur, hv, _⟩
    · exact ⟨none, 0, hv, Nsl.nil _ _, Nat.zero_le _⟩
    · exact ⟨_, cap, hv, Nsl.nil _ _, Nat.zero_le _⟩
  · rcases h.2 with ⟨_, hz⟩ | ⟨g, cap, cur, hv, _, _, hcap, _⟩
    · omega
    · subst hv
      obtain ⟨g', cap', hv', hg⟩ := h.form h0
      simp only [Value.slice.injEq, Option.some.injEq, Addr.mk.injEq, true_and, and_true] at hv'
      obtain ⟨rfl, rfl⟩ := hv'
      refine ⟨_, cap, rfl, fun _ => ⟨g, 0, rfl, hg.2, fun k x hx => ?_⟩, hcap⟩
      have h1 := h.cells (g := g) rfl k (.int .u64 x) (by unfold uCells; rw [List.getElem?_map, hx]; rfl)
      by_cases hj0 : k = 0
      · subst hj0; simpa [Addr.add] using h1
      · simpa [Addr.add, hj0] using h1
theorem u_one (xs : List Nat) : ∀ u ∈ uCells xs, u.oneCell' = true := by
  intro u hu
  obtain ⟨x, _, rfl⟩ := List.mem_map.1 hu
  rfl
theorem one_new (w : World) (v : Value) (t : TypeId) : ∀ j u, [v][j]? = some u → (w.alloc (.cells #[v] t)).cell? ((⟨w.heap.size, 0, none⟩ : Addr).add j) = some u := by
  intro j u hj
  match j, hj with
  | 0, hj => simp at hj; subst hj; simp [Addr.add]
  | j + 1, hj => simp at hj

set_option maxRecDepth 100000 in
set_option maxHeartbeats 1000000 in
theorem cut_any (xs : List Nat) (A : Option Addr) (c : Nat) (w : World) (hn : xs.length ≤ 1048576) (hc : xs.length ≤ c) (hA : Nsl w A xs) (hlt : ∀ x ∈ xs, x < 65536) :
    Calls Tryz.prog 74 #[.slice A xs.length c] w fun e w' => ∃ n, e = .returned (.slice A n c) ∧ n ≤ xs.length ∧ Hid (xs.take n = dgs 65536 (dv 65536 xs)) ∧ w = w' := by
  have HLT := Lib.hid hlt; clear hlt
  have h0 : Hid (dv 65536 (xs.take xs.length) = dv 65536 xs) := by show _ = _; rw [List.take_length]
  go_enter Tryz.func74, Tryz.ntmps74
  go_wp2_with fail
  go_loop [3] (fun n => ∃ k : Nat, k ≤ xs.length ∧ n = .int .i64 k ∧ Hid (dv 65536 (xs.take k) = dv 65536 xs)) (fun n => (intOf n).toNat)
  case atStart => exact ⟨_, Nat.le_refl _, rfl, h0⟩
  case round =>
    obtain ⟨k, hk, rfl, HK⟩ := hrel
    have kc : (k : Int) ≤ (c : Int) := by omega
    rcases Nat.eq_zero_or_pos k with hk0 | hk0
    · subst hk0
      have hfin : Hid (xs.take 0 = dgs 65536 (dv 65536 xs)) := by
        show _ = _
        rw [← HK.out, List.take_zero]
        exact (dgs_zero _).symm
      clear HK h0
      go_wp2_with fail
      go_ret
      exact ⟨0, rfl, Nat.zero_le _, hfin, rfl⟩
    · obtain ⟨j, rfl⟩ : ∃ j, k = j + 1 := ⟨k - 1, by omega⟩
      obtain ⟨x, hx⟩ : ∃ x, xs[j]? = some x := ⟨xs[j], List.getElem?_eq_getElem (by omega)⟩
      obtain ⟨g, o, rfl, hg, hcl⟩ := hA (by intro h; rw [h] at hk; simp at hk)
      have cj := hcl j x hx
      have hjn : (j : Int) < (xs.length : Int) := by omega
      have hx6 := HLT.out x (List.mem_of_getElem? hx)
      have HX := Lib.hid hx; clear hx hcl
      by_cases hx0 : x = 0
      · subst hx0
        have hstep : Hid (dv 65536 (xs.take j) = dv 65536 xs) := by show _ = _; rw [← HK.out, cut_zero xs j (by omega) HX.out]
        clear HK
        go_wp2_with fail
        go_round
        case rel => exact ⟨j, by omega, by go_num, hstep⟩
        case measure => simp [intOf] <;> omega
      · have hfin : Hid (xs.take (j + 1) = dgs 65536 (dv 65536 xs)) := by
          show _ = _
          rw [← HK.out]
          exact (cut_done (by decide) xs j x HLT.out HX.out (by omega)).symm
        have hx1 : ((x : Int) == 0) = false := beq_eq_false_iff_ne.2 (by omega)
        clear HK
        go_wp2_with fail
        go_ret
        exact ⟨j + 1, rfl, hk, hfin, rfl⟩
end Go.Proofs.YtckmhbgpaiocbaaGreatDoor
