/- The walks of Num, Bool, and of Tuple and List of nothing. -/
import Derived.Test.YtbhekkkijomglaaGreatDoorValS
namespace Go.Proofs.YtbhekkkijomglaaGreatDoor
open Go.RowKit

theorem num_any (n : Int) (w : World) : Calls Tryz.prog 91 #[.int .i64 n] w fun e w' => e = .returned (vAgg (.mk 1 n []) none 0) ∧ Below w.heap.size w w' := by
  have hb0 : Hid (∀ o, Below w.heap.size w (w.alloc o)) := fun o => (Below.refl w.heap.size w).alloc (Nat.le_refl _) o
  go_enter Tryz.func91, Tryz.ntmps91
  go_wp2_with fail
  refine bodyPost_ret (v := .agg #[.int .u8 1, .int .i64 n, .slice none 0 0]) (by simp [results, Tryz.results91, go_sem]) rfl ⟨rfl, ?_⟩
  first | exact hb0.out _ | exact Below.refl _ _

theorem copies_nil (A : Option Addr) (c : Nat) (w : World) : Calls Tryz.prog 40 #[.slice A 0 c] w fun e w' => e = .returned (.slice none 0 0) ∧ w = w' := by
  go_enter Tryz.func40, Tryz.ntmps40
  go_wp2_with fail
  go_ret
  exact ⟨rfl, rfl⟩

theorem tuple_nil (A : Option Addr) (c : Nat) (w : World) : Calls Tryz.prog 24 #[.slice A 0 c] w fun e w' => e = .returned (vAgg (.mk 3 0 []) none 0) ∧ Below w.heap.size w w' := by
  have hb0 : Hid (∀ o, Below w.heap.size w (w.alloc o)) := fun o => (Below.refl w.heap.size w).alloc (Nat.le_refl _) o
  have HC := Lib.hid (fun W => copies_nil A c W)
  go_enter Tryz.func24, Tryz.ntmps24
  go_wp2_with (go_at_call 40; refine (HC.out _).mono ?_; rintro e w' ⟨rfl, rfl⟩)
  refine bodyPost_ret (v := .agg #[.int .u8 3, .int .i64 0, .slice none 0 0]) (by simp [results, Tryz.results24, go_sem]) rfl ⟨rfl, ?_⟩
  first | exact hb0.out _ | exact Below.refl _ _

theorem list_nil (A : Option Addr) (c : Nat) (w : World) : Calls Tryz.prog 23 #[.slice A 0 c] w fun e w' => e = .returned (vAgg (.mk 4 0 []) none 0) ∧ Below w.heap.size w w' := by
  have hb0 : Hid (∀ o, Below w.heap.size w (w.alloc o)) := fun o => (Below.refl w.heap.size w).alloc (Nat.le_refl _) o
  have HC := Lib.hid (fun W => copies_nil A c W)
  go_enter Tryz.func23, Tryz.ntmps23
  go_wp2_with (go_at_call 40; refine (HC.out _).mono ?_; rintro e w' ⟨rfl, rfl⟩)
  refine bodyPost_ret (v := .agg #[.int .u8 4, .int .i64 0, .slice none 0 0]) (by simp [results, Tryz.results23, go_sem]) rfl ⟨rfl, ?_⟩
  first | exact hb0.out _ | exact Below.refl _ _

theorem bool_any (b : Bool) (w : World) : Calls Tryz.prog 92 #[.bool b] w fun e w' => e = .returned (vAgg (.mk 2 (if b then 1 else 0) []) none 0) ∧ Below w.heap.size w w' := by
  have hb0 : Hid (∀ o, Below w.heap.size w (w.alloc o)) := fun o => (Below.refl w.heap.size w).alloc (Nat.le_refl _) o
  cases b
  · go_enter Tryz.func92, Tryz.ntmps92
    go_wp2_with fail
    refine bodyPost_ret (v := .agg #[.int .u8 2, .int .i64 0, .slice none 0 0]) (by simp [results, Tryz.results92, go_sem]) rfl ⟨rfl, ?_⟩
    exact (hb0.out _).alloc (hb0.out _).size _
  · go_enter Tryz.func92, Tryz.ntmps92
    go_wp2_with fail
    refine bodyPost_ret (v := .agg #[.int .u8 2, .int .i64 1, .slice none 0 0]) (by simp [results, Tryz.results92, go_sem]) rfl ⟨rfl, ?_⟩
    exact (hb0.out _).alloc (hb0.out _).size _
end Go.Proofs.YtbhekkkijomglaaGreatDoor
