/- The walks of the texts' small functions: brackets, shuts. -/
import Derived.Test.YtbhekkkijomglaaGreatDoorValB
namespace Go.Proofs.YtbhekkkijomglaaGreatDoor
open Go.RowKit

theorem brackets_tuple (w : World) : Calls Tryz.prog 45 #[.int .u8 3] w fun e w' => e = .returned (.agg #[.string ⟨#[60]⟩, .string ⟨#[62]⟩, .int .u8 5, .int .u8 6]) ∧ Below w.heap.size w w' := by
  have hb0 : Hid (∀ o, Below w.heap.size w (w.alloc o)) := fun o => (Below.refl w.heap.size w).alloc (Nat.le_refl _) o
  go_enter Tryz.func45, Tryz.ntmps45
  go_wp2_with fail
  refine bodyPost_ret (v := .agg #[.string ⟨#[60]⟩, .string ⟨#[62]⟩, .int .u8 5, .int .u8 6]) (by simp [results, Tryz.results45, go_sem]) rfl ⟨rfl, ?_⟩
  exact hb0.out _
theorem brackets_list (w : World) (k : Nat) (hk : k ≠ 3) : Calls Tryz.prog 45 #[.int .u8 k] w fun e w' => e = .returned (.agg #[.string ⟨#[91]⟩, .string ⟨#[93]⟩, .int .u8 3, .int .u8 4]) ∧ Below w.heap.size w w' := by
  have hb0 : Hid (∀ o, Below w.heap.size w (w.alloc o)) := fun o => (Below.refl w.heap.size w).alloc (Nat.le_refl _) o
  have hk3 : ((k : Int) == 3) = false := beq_eq_false_iff_ne.2 (by omega)
  go_enter Tryz.func45, Tryz.ntmps45
  go_wp2_with fail
  refine bodyPost_ret (v := .agg #[.string ⟨#[91]⟩, .string ⟨#[93]⟩, .int .u8 3, .int .u8 4]) (by simp [results, Tryz.results45, go_sem]) rfl ⟨rfl, ?_⟩
  exact hb0.out _
end Go.Proofs.YtbhekkkijomglaaGreatDoor
