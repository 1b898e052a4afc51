/- The walks of leaf and wrong: what is wrong of a value, but for its items. -/
import Derived.Test.YtbhekkkijomglaaGreatDoorValS
namespace Go.Proofs.YtbhekkkijomglaaGreatDoor
open Go.RowKit

theorem leaf_any (k : Nat) (w : World) (b : Bool) (hb : b = decide (k = 1 ∨ k = 2)) : Calls Tryz.prog 67 #[.int .u8 k] w fun e w' => e = .returned (.bool b) ∧ w = w' := by
  by_cases h1 : k = 1
  · subst h1
    obtain rfl : b = true := by rw [hb]; rfl
    clear hb
    go_enter Tryz.func67, Tryz.ntmps67
    go_wp2_with fail
    go_ret
    exact ⟨rfl, rfl⟩
  by_cases h2 : k = 2
  · subst h2
    obtain rfl : b = true := by rw [hb]; rfl
    clear hb
    go_enter Tryz.func67, Tryz.ntmps67
    go_wp2_with fail
    go_ret
    exact ⟨rfl, rfl⟩
  obtain rfl : b = false := by rw [hb]; simp [h1, h2]
  have k1 : ((k : Int) == 1) = false := beq_eq_false_iff_ne.2 (by omega)
  have k2 : ((k : Int) == 2) = false := beq_eq_false_iff_ne.2 (by omega)
  clear hb h1 h2
  go_enter Tryz.func67, Tryz.ntmps67
  go_wp2_with fail
  go_ret
  exact ⟨rfl, rfl⟩


set_option maxRecDepth 100000 in
theorem wrong_num_lo (n : Int) (len : Nat) (A : Option Addr) (c : Nat) (w : World) (h : n < -1099511627776) :
    Calls Tryz.prog 42 #[.agg #[.int .u8 1, .int .i64 n, .slice A len c]] w fun e w' => e = .returned (.int .i64 1) ∧ Below w.heap.size w w' := by
  have hb0 : Hid (∀ o, Below w.heap.size w (w.alloc o)) := fun o => (Below.refl w.heap.size w).alloc (Nat.le_refl _) o
  go_enter Tryz.func42, Tryz.ntmps42
  go_wp2_with fail
  go_ret
  exact ⟨rfl, hb0.out _⟩


set_option maxRecDepth 100000 in
theorem wrong_num_hi (n : Int) (len : Nat) (A : Option Addr) (c : Nat) (w : World) (h : 1099511627776 < n) :
    Calls Tryz.prog 42 #[.agg #[.int .u8 1, .int .i64 n, .slice A len c]] w fun e w' => e = .returned (.int .i64 1) ∧ Below w.heap.size w w' := by
  have hb0 : Hid (∀ o, Below w.heap.size w (w.alloc o)) := fun o => (Below.refl w.heap.size w).alloc (Nat.le_refl _) o
  have h2 : ¬ n < -1099511627776 := by omega
  go_enter Tryz.func42, Tryz.ntmps42
  go_wp2_with fail
  go_ret
  exact ⟨rfl, hb0.out _⟩


set_option maxRecDepth 100000 in
theorem wrong_num_len (n : Int) (len : Nat) (A : Option Addr) (c : Nat) (w : World) (h1 : -1099511627776 ≤ n) (h2 : n ≤ 1099511627776) (hl : 0 < len) :
    Calls Tryz.prog 42 #[.agg #[.int .u8 1, .int .i64 n, .slice A len c]] w fun e w' => e = .returned (.int .i64 3) ∧ Below w.heap.size w w' := by
  have hb0 : Hid (∀ o, Below w.heap.size w (w.alloc o)) := fun o => (Below.refl w.heap.size w).alloc (Nat.le_refl _) o
  have hl1 : (0 : Int) < (len : Int) := by omega
  have HLF := Lib.hid (fun W => leaf_any 1 W true (by simp))
  go_enter Tryz.func42, Tryz.ntmps42
  go_wp2_with (go_at_call 67; refine (HLF.out _).mono ?_; rintro e w' ⟨rfl, rfl⟩)
  go_ret
  exact ⟨rfl, hb0.out _⟩


set_option maxRecDepth 100000 in
theorem wrong_num_ok (n : Int) (len : Nat) (A : Option Addr) (c : Nat) (w : World) (h1 : -1099511627776 ≤ n) (h2 : n ≤ 1099511627776) (hl : len = 0) :
    Calls Tryz.prog 42 #[.agg #[.int .u8 1, .int .i64 n, .slice A len c]] w fun e w' => e = .returned (.int .i64 0) ∧ Below w.heap.size w w' := by
  have hb0 : Hid (∀ o, Below w.heap.size w (w.alloc o)) := fun o => (Below.refl w.heap.size w).alloc (Nat.le_refl _) o
  subst hl
  have HLF := Lib.hid (fun W => leaf_any 1 W true (by simp))
  go_enter Tryz.func42, Tryz.ntmps42
  go_wp2_with (go_at_call 67; refine (HLF.out _).mono ?_; rintro e w' ⟨rfl, rfl⟩)
  go_ret
  exact ⟨rfl, hb0.out _⟩


set_option maxRecDepth 100000 in
theorem wrong_bool_n (n : Int) (len : Nat) (A : Option Addr) (c : Nat) (w : World) (h1 : (n != 0) = true) (h2 : (n != 1) = true) :
    Calls Tryz.prog 42 #[.agg #[.int .u8 2, .int .i64 n, .slice A len c]] w fun e w' => e = .returned (.int .i64 1) ∧ Below w.heap.size w w' := by
  have hb0 : Hid (∀ o, Below w.heap.size w (w.alloc o)) := fun o => (Below.refl w.heap.size w).alloc (Nat.le_refl _) o
  go_enter Tryz.func42, Tryz.ntmps42
  go_wp2_with fail
  go_ret
  exact ⟨rfl, hb0.out _⟩


set_option maxRecDepth 100000 in
theorem wrong_bool_len0 (len : Nat) (A : Option Addr) (c : Nat) (w : World) (hl : 0 < len) :
    Calls Tryz.prog 42 #[.agg #[.int .u8 2, .int .i64 0, .slice A len c]] w fun e w' => e = .returned (.int .i64 3) ∧ Below w.heap.size w w' := by
  have hb0 : Hid (∀ o, Below w.heap.size w (w.alloc o)) := fun o => (Below.refl w.heap.size w).alloc (Nat.le_refl _) o
  have hl1 : (0 : Int) < (len : Int) := by omega
  have HLF := Lib.hid (fun W => leaf_any 2 W true (by simp))
  go_enter Tryz.func42, Tryz.ntmps42
  go_wp2_with (go_at_call 67; refine (HLF.out _).mono ?_; rintro e w' ⟨rfl, rfl⟩)
  go_ret
  exact ⟨rfl, hb0.out _⟩


set_option maxRecDepth 100000 in
theorem wrong_bool_ok0 (len : Nat) (A : Option Addr) (c : Nat) (w : World) (hl : len = 0) :
    Calls Tryz.prog 42 #[.agg #[.int .u8 2, .int .i64 0, .slice A len c]] w fun e w' => e = .returned (.int .i64 0) ∧ Below w.heap.size w w' := by
  have hb0 : Hid (∀ o, Below w.heap.size w (w.alloc o)) := fun o => (Below.refl w.heap.size w).alloc (Nat.le_refl _) o
  subst hl
  have HLF := Lib.hid (fun W => leaf_any 2 W true (by simp))
  go_enter Tryz.func42, Tryz.ntmps42
  go_wp2_with (go_at_call 67; refine (HLF.out _).mono ?_; rintro e w' ⟨rfl, rfl⟩)
  go_ret
  exact ⟨rfl, hb0.out _⟩


set_option maxRecDepth 100000 in
theorem wrong_bool_len1 (len : Nat) (A : Option Addr) (c : Nat) (w : World) (hl : 0 < len) :
    Calls Tryz.prog 42 #[.agg #[.int .u8 2, .int .i64 1, .slice A len c]] w fun e w' => e = .returned (.int .i64 3) ∧ Below w.heap.size w w' := by
  have hb0 : Hid (∀ o, Below w.heap.size w (w.alloc o)) := fun o => (Below.refl w.heap.size w).alloc (Nat.le_refl _) o
  have hl1 : (0 : Int) < (len : Int) := by omega
  have HLF := Lib.hid (fun W => leaf_any 2 W true (by simp))
  go_enter Tryz.func42, Tryz.ntmps42
  go_wp2_with (go_at_call 67; refine (HLF.out _).mono ?_; rintro e w' ⟨rfl, rfl⟩)
  go_ret
  exact ⟨rfl, hb0.out _⟩


set_option maxRecDepth 100000 in
theorem wrong_bool_ok1 (len : Nat) (A : Option Addr) (c : Nat) (w : World) (hl : len = 0) :
    Calls Tryz.prog 42 #[.agg #[.int .u8 2, .int .i64 1, .slice A len c]] w fun e w' => e = .returned (.int .i64 0) ∧ Below w.heap.size w w' := by
  have hb0 : Hid (∀ o, Below w.heap.size w (w.alloc o)) := fun o => (Below.refl w.heap.size w).alloc (Nat.le_refl _) o
  subst hl
  have HLF := Lib.hid (fun W => leaf_any 2 W true (by simp))
  go_enter Tryz.func42, Tryz.ntmps42
  go_wp2_with (go_at_call 67; refine (HLF.out _).mono ?_; rintro e w' ⟨rfl, rfl⟩)
  go_ret
  exact ⟨rfl, hb0.out _⟩


set_option maxRecDepth 100000 in
theorem wrong_row_n3 (n : Int) (len : Nat) (A : Option Addr) (c : Nat) (w : World) (h1 : (n != 0) = true) :
    Calls Tryz.prog 42 #[.agg #[.int .u8 3, .int .i64 n, .slice A len c]] w fun e w' => e = .returned (.int .i64 3) ∧ Below w.heap.size w w' := by
  have hb0 : Hid (∀ o, Below w.heap.size w (w.alloc o)) := fun o => (Below.refl w.heap.size w).alloc (Nat.le_refl _) o
  go_enter Tryz.func42, Tryz.ntmps42
  go_wp2_with fail
  go_ret
  exact ⟨rfl, hb0.out _⟩


set_option maxRecDepth 100000 in
theorem wrong_row_len3 (len : Nat) (A : Option Addr) (c : Nat) (w : World) (hl : 64 < len) :
    Calls Tryz.prog 42 #[.agg #[.int .u8 3, .int .i64 0, .slice A len c]] w fun e w' => e = .returned (.int .i64 5) ∧ Below w.heap.size w w' := by
  have hb0 : Hid (∀ o, Below w.heap.size w (w.alloc o)) := fun o => (Below.refl w.heap.size w).alloc (Nat.le_refl _) o
  have hl1 : (64 : Int) < (len : Int) := by omega
  have HLF := Lib.hid (fun W => leaf_any 3 W false (by simp))
  go_enter Tryz.func42, Tryz.ntmps42
  go_wp2_with (go_at_call 67; refine (HLF.out _).mono ?_; rintro e w' ⟨rfl, rfl⟩)
  go_ret
  exact ⟨rfl, hb0.out _⟩


set_option maxRecDepth 100000 in
theorem wrong_row_ok3 (len : Nat) (A : Option Addr) (c : Nat) (w : World) (hl : len ≤ 64) :
    Calls Tryz.prog 42 #[.agg #[.int .u8 3, .int .i64 0, .slice A len c]] w fun e w' => e = .returned (.int .i64 0) ∧ Below w.heap.size w w' := by
  have hb0 : Hid (∀ o, Below w.heap.size w (w.alloc o)) := fun o => (Below.refl w.heap.size w).alloc (Nat.le_refl _) o
  have hl1 : ¬ (64 : Int) < (len : Int) := by omega
  have HLF := Lib.hid (fun W => leaf_any 3 W false (by simp))
  go_enter Tryz.func42, Tryz.ntmps42
  go_wp2_with (go_at_call 67; refine (HLF.out _).mono ?_; rintro e w' ⟨rfl, rfl⟩)
  go_ret
  exact ⟨rfl, hb0.out _⟩


set_option maxRecDepth 100000 in
theorem wrong_row_n4 (n : Int) (len : Nat) (A : Option Addr) (c : Nat) (w : World) (h1 : (n != 0) = true) :
    Calls Tryz.prog 42 #[.agg #[.int .u8 4, .int .i64 n, .slice A len c]] w fun e w' => e = .returned (.int .i64 3) ∧ Below w.heap.size w w' := by
  have hb0 : Hid (∀ o, Below w.heap.size w (w.alloc o)) := fun o => (Below.refl w.heap.size w).alloc (Nat.le_refl _) o
  go_enter Tryz.func42, Tryz.ntmps42
  go_wp2_with fail
  go_ret
  exact ⟨rfl, hb0.out _⟩


set_option maxRecDepth 100000 in
theorem wrong_row_len4 (len : Nat) (A : Option Addr) (c : Nat) (w : World) (hl : 64 < len) :
    Calls Tryz.prog 42 #[.agg #[.int .u8 4, .int .i64 0, .slice A len c]] w fun e w' => e = .returned (.int .i64 5) ∧ Below w.heap.size w w' := by
  have hb0 : Hid (∀ o, Below w.heap.size w (w.alloc o)) := fun o => (Below.refl w.heap.size w).alloc (Nat.le_refl _) o
  have hl1 : (64 : Int) < (len : Int) := by omega
  have HLF := Lib.hid (fun W => leaf_any 4 W false (by simp))
  go_enter Tryz.func42, Tryz.ntmps42
  go_wp2_with (go_at_call 67; refine (HLF.out _).mono ?_; rintro e w' ⟨rfl, rfl⟩)
  go_ret
  exact ⟨rfl, hb0.out _⟩


set_option maxRecDepth 100000 in
theorem wrong_row_ok4 (len : Nat) (A : Option Addr) (c : Nat) (w : World) (hl : len ≤ 64) :
    Calls Tryz.prog 42 #[.agg #[.int .u8 4, .int .i64 0, .slice A len c]] w fun e w' => e = .returned (.int .i64 0) ∧ Below w.heap.size w w' := by
  have hb0 : Hid (∀ o, Below w.heap.size w (w.alloc o)) := fun o => (Below.refl w.heap.size w).alloc (Nat.le_refl _) o
  have hl1 : ¬ (64 : Int) < (len : Int) := by omega
  have HLF := Lib.hid (fun W => leaf_any 4 W false (by simp))
  go_enter Tryz.func42, Tryz.ntmps42
  go_wp2_with (go_at_call 67; refine (HLF.out _).mono ?_; rintro e w' ⟨rfl, rfl⟩)
  go_ret
  exact ⟨rfl, hb0.out _⟩


set_option maxRecDepth 100000 in
theorem wrong_kind (k : Nat) (n : Int) (len : Nat) (A : Option Addr) (c : Nat) (w : World) (h1 : ((k : Int) == 1) = false) (h2 : ((k : Int) == 2) = false) (h3 : ((k : Int) == 3) = false) (h4 : ((k : Int) == 4) = false) :
    Calls Tryz.prog 42 #[.agg #[.int .u8 k, .int .i64 n, .slice A len c]] w fun e w' => e = .returned (.int .i64 11) ∧ Below w.heap.size w w' := by
  have hb0 : Hid (∀ o, Below w.heap.size w (w.alloc o)) := fun o => (Below.refl w.heap.size w).alloc (Nat.le_refl _) o
  go_enter Tryz.func42, Tryz.ntmps42
  go_wp2_with fail
  go_ret
  exact ⟨rfl, hb0.out _⟩


theorem vwrong_any (x : V) (A : Option Addr) (c : Nat) (w : World) :
    Calls Tryz.prog 42 #[vAgg x A c] w fun e w' => e = .returned (.int .i64 (nodeE x.k x.n x.l.length : Nat)) ∧ Below w.heap.size w w' := by
  obtain ⟨k, n, l⟩ := x
  show Calls Tryz.prog 42 #[.agg #[.int .u8 k, .int .i64 n, .slice A l.length c]] w fun e w' => e = .returned (.int .i64 (nodeE k n l.length : Nat)) ∧ Below w.heap.size w w'
  generalize l.length = len
  unfold nodeE
  by_cases k1 : k = 1
  · subst k1
    by_cases h1 : n < -1099511627776
    · rw [if_pos ⟨rfl, .inl h1⟩]; exact wrong_num_lo n len A c w h1
    by_cases h2 : 1099511627776 < n
    · rw [if_pos ⟨rfl, .inr h2⟩]; exact wrong_num_hi n len A c w h2
    rw [if_neg (by omega), if_neg (by omega), if_neg (by omega), if_neg (by omega)]
    by_cases h3 : 0 < len
    · rw [if_pos ⟨.inl rfl, h3⟩]; exact wrong_num_len n len A c w (by omega) (by omega) h3
    · rw [if_neg (by omega), if_neg (by omega)]; exact wrong_num_ok n len A c w (by omega) (by omega) (by omega)
  rw [if_neg (fun h => k1 h.1)]
  by_cases k2 : k = 2
  · subst k2
    by_cases h0 : n = 0
    · subst h0
      rw [if_neg (by omega), if_neg (by omega), if_neg (by omega)]
      by_cases h3 : 0 < len
      · rw [if_pos ⟨.inr rfl, h3⟩]; exact wrong_bool_len0 len A c w h3
      · rw [if_neg (by omega), if_neg (by omega)]; exact wrong_bool_ok0 len A c w (by omega)
    by_cases h1 : n = 1
    · subst h1
      rw [if_neg (by omega), if_neg (by omega), if_neg (by omega)]
      by_cases h3 : 0 < len
      · rw [if_pos ⟨.inr rfl, h3⟩]; exact wrong_bool_len1 len A c w h3
      · rw [if_neg (by omega), if_neg (by omega)]; exact wrong_bool_ok1 len A c w (by omega)
    rw [if_pos ⟨rfl, h0, h1⟩]
    exact wrong_bool_n n len A c w (bne_iff_ne.2 h0) (bne_iff_ne.2 h1)
  rw [if_neg (fun h => k2 h.1)]
  by_cases k3 : k = 3
  · subst k3
    by_cases h0 : n = 0
    · subst h0
      rw [if_neg (fun h => h.2 rfl), if_neg (by omega), if_neg (by omega)]
      by_cases h3 : 64 < len
      · rw [if_pos h3]; exact wrong_row_len3 len A c w h3
      · rw [if_neg h3]; exact wrong_row_ok3 len A c w (by omega)
    · rw [if_pos ⟨.inl rfl, h0⟩]; exact wrong_row_n3 n len A c w (bne_iff_ne.2 h0)
  by_cases k4 : k = 4
  · subst k4
    by_cases h0 : n = 0
    · subst h0
      rw [if_neg (fun h => h.2 rfl), if_neg (by omega), if_neg (by omega)]
      by_cases h3 : 64 < len
      · rw [if_pos h3]; exact wrong_row_len4 len A c w h3
      · rw [if_neg h3]; exact wrong_row_ok4 len A c w (by omega)
    · rw [if_pos ⟨.inr rfl, h0⟩]; exact wrong_row_n4 n len A c w (bne_iff_ne.2 h0)
  rw [if_neg (by omega), if_pos (by omega)]
  exact wrong_kind k n len A c w (beq_eq_false_iff_ne.2 (by omega)) (beq_eq_false_iff_ne.2 (by omega)) (beq_eq_false_iff_ne.2 (by omega)) (beq_eq_false_iff_ne.2 (by omega))
end Go.Proofs.YtbhekkkijomglaaGreatDoor
