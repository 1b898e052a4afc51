/- Put together: NodR, NodA, RfS, RfT, RfU. -/
import Derived.Test.YtbhekkkijomglaaGreatDoorValS
import Derived.Test.YtbhekkkijomglaaGreatDoorRefVZ
import Derived.Test.YtbhekkkijomglaaGreatDoorShV
import Derived.Test.YtbhekkkijomglaaGreatDoorAwB
import Derived.Test.YtbhekkkijomglaaGreatDoorPartV
namespace Go.Proofs.YtbhekkkijomglaaGreatDoor
/-! The walk of the reference's node: what is wrong of a value, but for its items. -/
section
open Go.RowKit


set_option maxRecDepth 100000 in
theorem node_none (n : Int) (len : Nat) (A : Option Addr) (c : Nat) (w : World) :
    Calls Tryz.prog 70 #[.agg #[.int .u8 0, .int .i64 n, .slice A len c]] w fun e w' => e = .returned (.int .i64 11) ∧ Below w.heap.size w w' := by
  have hb0 : Hid (∀ o, Below w.heap.size w (w.alloc o)) := fun o => (Below.refl w.heap.size w).alloc (Nat.le_refl _) o
  go_enter Tryz.func70, Tryz.ntmps70
  go_wp2_with fail
  go_ret
  exact ⟨rfl, hb0.out _⟩


set_option maxRecDepth 100000 in
theorem node_kind (k : Nat) (n : Int) (len : Nat) (A : Option Addr) (c : Nat) (w : World) (hk : 4 < k) :
    Calls Tryz.prog 70 #[.agg #[.int .u8 k, .int .i64 n, .slice A len c]] w fun e w' => e = .returned (.int .i64 11) ∧ Below w.heap.size w w' := by
  have hb0 : Hid (∀ o, Below w.heap.size w (w.alloc o)) := fun o => (Below.refl w.heap.size w).alloc (Nat.le_refl _) o
  have k1 : ¬ (k : Int) < 1 := by omega
  have k4 : (4 : Int) < (k : Int) := by omega
  clear hk
  go_enter Tryz.func70, Tryz.ntmps70
  go_wp2_with fail
  go_ret
  exact ⟨rfl, hb0.out _⟩


set_option maxRecDepth 100000 in
theorem node_num_lo (n : Int) (len : Nat) (A : Option Addr) (c : Nat) (w : World) (h : n < -1099511627776) :
    Calls Tryz.prog 70 #[.agg #[.int .u8 1, .int .i64 n, .slice A len c]] w fun e w' => e = .returned (.int .i64 1) ∧ Below w.heap.size w w' := by
  have hb0 : Hid (∀ o, Below w.heap.size w (w.alloc o)) := fun o => (Below.refl w.heap.size w).alloc (Nat.le_refl _) o
  go_enter Tryz.func70, Tryz.ntmps70
  go_wp2_with fail
  go_ret
  exact ⟨rfl, hb0.out _⟩


set_option maxRecDepth 100000 in
theorem node_num_hi (n : Int) (len : Nat) (A : Option Addr) (c : Nat) (w : World) (h : 1099511627776 < n) :
    Calls Tryz.prog 70 #[.agg #[.int .u8 1, .int .i64 n, .slice A len c]] w fun e w' => e = .returned (.int .i64 1) ∧ Below w.heap.size w w' := by
  have hb0 : Hid (∀ o, Below w.heap.size w (w.alloc o)) := fun o => (Below.refl w.heap.size w).alloc (Nat.le_refl _) o
  have h2 : ¬ n < -1099511627776 := by omega
  go_enter Tryz.func70, Tryz.ntmps70
  go_wp2_with fail
  go_ret
  exact ⟨rfl, hb0.out _⟩


set_option maxRecDepth 100000 in
theorem node_num_len (n : Int) (len : Nat) (A : Option Addr) (c : Nat) (w : World) (h1 : ¬ n < -1099511627776) (h2 : ¬ 1099511627776 < n) (hl : 0 < len) :
    Calls Tryz.prog 70 #[.agg #[.int .u8 1, .int .i64 n, .slice A len c]] w fun e w' => e = .returned (.int .i64 3) ∧ Below w.heap.size w w' := by
  have hb0 : Hid (∀ o, Below w.heap.size w (w.alloc o)) := fun o => (Below.refl w.heap.size w).alloc (Nat.le_refl _) o
  have hl1 : (0 : Int) < (len : Int) := by omega
  go_enter Tryz.func70, Tryz.ntmps70
  go_wp2_with fail
  go_ret
  exact ⟨rfl, hb0.out _⟩


set_option maxRecDepth 100000 in
theorem node_num_ok (n : Int) (len : Nat) (A : Option Addr) (c : Nat) (w : World) (h1 : ¬ n < -1099511627776) (h2 : ¬ 1099511627776 < n) (hl : len = 0) :
    Calls Tryz.prog 70 #[.agg #[.int .u8 1, .int .i64 n, .slice A len c]] w fun e w' => e = .returned (.int .i64 0) ∧ Below w.heap.size w w' := by
  have hb0 : Hid (∀ o, Below w.heap.size w (w.alloc o)) := fun o => (Below.refl w.heap.size w).alloc (Nat.le_refl _) o
  subst hl
  go_enter Tryz.func70, Tryz.ntmps70
  go_wp2_with fail
  go_ret
  exact ⟨rfl, hb0.out _⟩


set_option maxRecDepth 100000 in
theorem node_bool_n (n : Int) (len : Nat) (A : Option Addr) (c : Nat) (w : World) (h1 : (n != 0) = true) (h2 : (n != 1) = true) :
    Calls Tryz.prog 70 #[.agg #[.int .u8 2, .int .i64 n, .slice A len c]] w fun e w' => e = .returned (.int .i64 1) ∧ Below w.heap.size w w' := by
  have hb0 : Hid (∀ o, Below w.heap.size w (w.alloc o)) := fun o => (Below.refl w.heap.size w).alloc (Nat.le_refl _) o
  go_enter Tryz.func70, Tryz.ntmps70
  go_wp2_with fail
  go_ret
  exact ⟨rfl, hb0.out _⟩


set_option maxRecDepth 100000 in
theorem node_bool_len0 (len : Nat) (A : Option Addr) (c : Nat) (w : World) (hl : 0 < len) :
    Calls Tryz.prog 70 #[.agg #[.int .u8 2, .int .i64 0, .slice A len c]] w fun e w' => e = .returned (.int .i64 3) ∧ Below w.heap.size w w' := by
  have hb0 : Hid (∀ o, Below w.heap.size w (w.alloc o)) := fun o => (Below.refl w.heap.size w).alloc (Nat.le_refl _) o
  have hl1 : (0 : Int) < (len : Int) := by omega
  go_enter Tryz.func70, Tryz.ntmps70
  go_wp2_with fail
  go_ret
  exact ⟨rfl, hb0.out _⟩


set_option maxRecDepth 100000 in
theorem node_bool_ok0 (len : Nat) (A : Option Addr) (c : Nat) (w : World) (hl : len = 0) :
    Calls Tryz.prog 70 #[.agg #[.int .u8 2, .int .i64 0, .slice A len c]] w fun e w' => e = .returned (.int .i64 0) ∧ Below w.heap.size w w' := by
  have hb0 : Hid (∀ o, Below w.heap.size w (w.alloc o)) := fun o => (Below.refl w.heap.size w).alloc (Nat.le_refl _) o
  subst hl
  go_enter Tryz.func70, Tryz.ntmps70
  go_wp2_with fail
  go_ret
  exact ⟨rfl, hb0.out _⟩


set_option maxRecDepth 100000 in
theorem node_bool_len1 (len : Nat) (A : Option Addr) (c : Nat) (w : World) (hl : 0 < len) :
    Calls Tryz.prog 70 #[.agg #[.int .u8 2, .int .i64 1, .slice A len c]] w fun e w' => e = .returned (.int .i64 3) ∧ Below w.heap.size w w' := by
  have hb0 : Hid (∀ o, Below w.heap.size w (w.alloc o)) := fun o => (Below.refl w.heap.size w).alloc (Nat.le_refl _) o
  have hl1 : (0 : Int) < (len : Int) := by omega
  go_enter Tryz.func70, Tryz.ntmps70
  go_wp2_with fail
  go_ret
  exact ⟨rfl, hb0.out _⟩


set_option maxRecDepth 100000 in
theorem node_bool_ok1 (len : Nat) (A : Option Addr) (c : Nat) (w : World) (hl : len = 0) :
    Calls Tryz.prog 70 #[.agg #[.int .u8 2, .int .i64 1, .slice A len c]] w fun e w' => e = .returned (.int .i64 0) ∧ Below w.heap.size w w' := by
  have hb0 : Hid (∀ o, Below w.heap.size w (w.alloc o)) := fun o => (Below.refl w.heap.size w).alloc (Nat.le_refl _) o
  subst hl
  go_enter Tryz.func70, Tryz.ntmps70
  go_wp2_with fail
  go_ret
  exact ⟨rfl, hb0.out _⟩


set_option maxRecDepth 100000 in
theorem node_row_n3 (n : Int) (len : Nat) (A : Option Addr) (c : Nat) (w : World) (h1 : (n != 0) = true) :
    Calls Tryz.prog 70 #[.agg #[.int .u8 3, .int .i64 n, .slice A len c]] w fun e w' => e = .returned (.int .i64 3) ∧ Below w.heap.size w w' := by
  have hb0 : Hid (∀ o, Below w.heap.size w (w.alloc o)) := fun o => (Below.refl w.heap.size w).alloc (Nat.le_refl _) o
  go_enter Tryz.func70, Tryz.ntmps70
  go_wp2_with fail
  go_ret
  exact ⟨rfl, hb0.out _⟩


set_option maxRecDepth 100000 in
theorem node_row_len3 (len : Nat) (A : Option Addr) (c : Nat) (w : World) (hl : 64 < len) :
    Calls Tryz.prog 70 #[.agg #[.int .u8 3, .int .i64 0, .slice A len c]] w fun e w' => e = .returned (.int .i64 5) ∧ Below w.heap.size w w' := by
  have hb0 : Hid (∀ o, Below w.heap.size w (w.alloc o)) := fun o => (Below.refl w.heap.size w).alloc (Nat.le_refl _) o
  have hl1 : (64 : Int) < (len : Int) := by omega
  go_enter Tryz.func70, Tryz.ntmps70
  go_wp2_with fail
  go_ret
  exact ⟨rfl, hb0.out _⟩


set_option maxRecDepth 100000 in
theorem node_row_ok3 (len : Nat) (A : Option Addr) (c : Nat) (w : World) (hl : len ≤ 64) :
    Calls Tryz.prog 70 #[.agg #[.int .u8 3, .int .i64 0, .slice A len c]] w fun e w' => e = .returned (.int .i64 0) ∧ Below w.heap.size w w' := by
  have hb0 : Hid (∀ o, Below w.heap.size w (w.alloc o)) := fun o => (Below.refl w.heap.size w).alloc (Nat.le_refl _) o
  have hl1 : ¬ (64 : Int) < (len : Int) := by omega
  go_enter Tryz.func70, Tryz.ntmps70
  go_wp2_with fail
  go_ret
  exact ⟨rfl, hb0.out _⟩


set_option maxRecDepth 100000 in
theorem node_row_n4 (n : Int) (len : Nat) (A : Option Addr) (c : Nat) (w : World) (h1 : (n != 0) = true) :
    Calls Tryz.prog 70 #[.agg #[.int .u8 4, .int .i64 n, .slice A len c]] w fun e w' => e = .returned (.int .i64 3) ∧ Below w.heap.size w w' := by
  have hb0 : Hid (∀ o, Below w.heap.size w (w.alloc o)) := fun o => (Below.refl w.heap.size w).alloc (Nat.le_refl _) o
  go_enter Tryz.func70, Tryz.ntmps70
  go_wp2_with fail
  go_ret
  exact ⟨rfl, hb0.out _⟩


set_option maxRecDepth 100000 in
theorem node_row_len4 (len : Nat) (A : Option Addr) (c : Nat) (w : World) (hl : 64 < len) :
    Calls Tryz.prog 70 #[.agg #[.int .u8 4, .int .i64 0, .slice A len c]] w fun e w' => e = .returned (.int .i64 5) ∧ Below w.heap.size w w' := by
  have hb0 : Hid (∀ o, Below w.heap.size w (w.alloc o)) := fun o => (Below.refl w.heap.size w).alloc (Nat.le_refl _) o
  have hl1 : (64 : Int) < (len : Int) := by omega
  go_enter Tryz.func70, Tryz.ntmps70
  go_wp2_with fail
  go_ret
  exact ⟨rfl, hb0.out _⟩


set_option maxRecDepth 100000 in
theorem node_row_ok4 (len : Nat) (A : Option Addr) (c : Nat) (w : World) (hl : len ≤ 64) :
    Calls Tryz.prog 70 #[.agg #[.int .u8 4, .int .i64 0, .slice A len c]] w fun e w' => e = .returned (.int .i64 0) ∧ Below w.heap.size w w' := by
  have hb0 : Hid (∀ o, Below w.heap.size w (w.alloc o)) := fun o => (Below.refl w.heap.size w).alloc (Nat.le_refl _) o
  have hl1 : ¬ (64 : Int) < (len : Int) := by omega
  go_enter Tryz.func70, Tryz.ntmps70
  go_wp2_with fail
  go_ret
  exact ⟨rfl, hb0.out _⟩


theorem node_any (k : Nat) (n : Int) (len : Nat) (A : Option Addr) (c : Nat) (w : World) :
    Calls Tryz.prog 70 #[.agg #[.int .u8 k, .int .i64 n, .slice A len c]] w fun e w' => e = .returned (.int .i64 (nodeE k n len : Nat)) ∧ Below w.heap.size w w' := by
  unfold nodeE
  by_cases k1 : k = 1
  · subst k1
    by_cases h1 : n < -1099511627776
    · rw [if_pos ⟨rfl, .inl h1⟩]; exact node_num_lo n len A c w h1
    by_cases h2 : 1099511627776 < n
    · rw [if_pos ⟨rfl, .inr h2⟩]; exact node_num_hi n len A c w h2
    rw [if_neg (by omega), if_neg (by omega), if_neg (by omega), if_neg (by omega)]
    by_cases h3 : 0 < len
    · rw [if_pos ⟨.inl rfl, h3⟩]; exact node_num_len n len A c w h1 h2 h3
    · rw [if_neg (by omega), if_neg (by omega)]; exact node_num_ok n len A c w h1 h2 (by omega)
  rw [if_neg (fun h => k1 h.1)]
  by_cases k2 : k = 2
  · subst k2
    by_cases h0 : n = 0
    · subst h0
      rw [if_neg (by omega), if_neg (by omega), if_neg (by omega)]
      by_cases h3 : 0 < len
      · rw [if_pos ⟨.inr rfl, h3⟩]; exact node_bool_len0 len A c w h3
      · rw [if_neg (by omega), if_neg (by omega)]; exact node_bool_ok0 len A c w (by omega)
    by_cases h1 : n = 1
    · subst h1
      rw [if_neg (by omega), if_neg (by omega), if_neg (by omega)]
      by_cases h3 : 0 < len
      · rw [if_pos ⟨.inr rfl, h3⟩]; exact node_bool_len1 len A c w h3
      · rw [if_neg (by omega), if_neg (by omega)]; exact node_bool_ok1 len A c w (by omega)
    rw [if_pos ⟨rfl, h0, h1⟩]
    exact node_bool_n n len A c w (bne_iff_ne.2 h0) (bne_iff_ne.2 h1)
  rw [if_neg (fun h => k2 h.1)]
  by_cases k3 : k = 3
  · subst k3
    by_cases h0 : n = 0
    · subst h0
      rw [if_neg (fun h => h.2 rfl), if_neg (by omega), if_neg (by omega)]
      by_cases h3 : 64 < len
      · rw [if_pos h3]; exact node_row_len3 len A c w h3
      · rw [if_neg h3]; exact node_row_ok3 len A c w (by omega)
    · rw [if_pos ⟨.inl rfl, h0⟩]; exact node_row_n3 n len A c w (bne_iff_ne.2 h0)
  by_cases k4 : k = 4
  · subst k4
    by_cases h0 : n = 0
    · subst h0
      rw [if_neg (fun h => h.2 rfl), if_neg (by omega), if_neg (by omega)]
      by_cases h3 : 64 < len
      · rw [if_pos h3]; exact node_row_len4 len A c w h3
      · rw [if_neg h3]; exact node_row_ok4 len A c w (by omega)
    · rw [if_pos ⟨.inr rfl, h0⟩]; exact node_row_n4 n len A c w (bne_iff_ne.2 h0)
  rw [if_neg (by omega), if_pos (by omega)]
  by_cases k0 : k = 0
  · subst k0; exact node_none n len A c w
  exact node_kind k n len A c w (by omega)
end

/-! The walks of the reference's all, Deep, Size, Check (values). -/
section
open Go.RowKit

theorem deep_size : ∀ x : V, x.deep ≤ x.size := by
  intro x
  induction x using V.ind with
  | h k n l ih =>
    rw [V.deep, V.size]
    have key : ∀ l : List V, (∀ x ∈ l, x.deep ≤ x.size) → V.deeps l ≤ V.sizes l := by
      intro l
      induction l with
      | nil => intro _; exact Nat.le_refl _
      | cons x r ihr =>
        intro h
        rw [V.deeps, V.sizes]
        have h1 := h x List.mem_cons_self
        have h2 := ihr fun y hy => h y (List.mem_cons_of_mem _ hy)
        omega
    have := key l ih
    omega

set_option maxRecDepth 100000 in
set_option maxHeartbeats 1000000 in
theorem rall_val : ∀ (x : V) (A : Option Addr) (c : Nat) (w : World), x.size ≤ 1000000 → Vsl w w.heap.size A x.l →
    Calls Tryz.prog 47 #[vAgg x A c] w fun e w' => e = .returned (.int .i64 (x.first : Nat)) ∧ Below w.heap.size w w' := by
  intro x
  induction x using V.ind with
  | h k n l ih =>
    intro A c w hsz hA
    change Vsl w w.heap.size A l at hA
    have hll : l.length ≤ 1000000 := by rw [V.size] at hsz; have := len_sizes l; omega
    have hsub : ∀ y ∈ l, y.size ≤ 1000000 := fun y hy => by rw [V.size] at hsz; have := size_mem hy; omega
    have IH := Lib.hid ih; have HS := Lib.hid hsub
    clear ih hsub hsz
    show Calls Tryz.prog 47 #[.agg #[.int .u8 k, .int .i64 n, .slice A l.length c]] w fun e w' => e = .returned (.int .i64 ((V.mk k n l).first : Nat)) ∧ Below w.heap.size w w'
    have HK := Lib.hid (And.intro (Blk.new w 24 #[.int .u8 k, .int .i64 n, .slice A l.length c]) ((Below.refl w.heap.size w).alloc (Nat.le_refl _) (.cells #[.int .u8 k, .int .i64 n, .slice A l.length c] 24)))
    have H0 : Hid ((if nodeE k n l.length ≠ 0 then nodeE k n l.length else V.firsts (l.drop 0)) = (V.mk k n l).first) := by show _ = _; rw [V.first]; rfl
    have HN := Lib.hid (fun W => node_any k n l.length A c W)
    generalize (V.mk k n l).first = R at *
    generalize nodeE k n l.length = q0 at *
    go_enter Tryz.func47, Tryz.ntmps47
    go_wp2_with fail
    refine (HN.out _).mono ?_
    rintro e w1 ⟨rfl, hb1⟩
    have HK1 := Lib.hid (And.intro (HK.out.1.below hb1 (by simp)) (HK.out.2.trans (hb1.mono (by simp))))
    clear hb1 HK HN
    go_wp2_with fail
    go_loopw [3, 4] (fun nn i wr => ∃ j q : Nat, j ≤ l.length ∧ i = .int .i64 j ∧ nn = .int .i64 q ∧ Hid ((if q ≠ 0 then q else V.firsts (l.drop j)) = R) ∧ Blk wr w.heap.size 24 #[.int .u8 k, .int .i64 n, .slice A l.length c] ∧ Below w.heap.size w wr) (fun _ i _ => l.length - (intOf i).toNat)
    case atStart => exact ⟨0, q0, Nat.zero_le _, rfl, rfl, H0.out, HK1.out.1, HK1.out.2⟩
    case round =>
      obtain ⟨j, q, hj, rfl, rfl, HW, hk1, hbw⟩ := hrel
      obtain ⟨⟨a0, a1, a2⟩, _⟩ := hk1.three
      by_cases hlt : j < l.length
      · by_cases hq0 : q = 0
        · subst hq0
          obtain ⟨y, hy⟩ : ∃ y, l[j]? = some y := ⟨l[j], List.getElem?_eq_getElem hlt⟩
          have hw := HW.out
          rw [if_neg (by simp), drop_cons hy, V.firsts] at hw
          obtain ⟨g1, o1, A1, d1, rfl, hg1, p0, p1, p2, hA1⟩ := (hA.held hbw).at_ hy
          have hmem : y ∈ l := List.mem_of_getElem? hy
          have hcall := fun W h => IH.out y hmem A1 d1 W (HS.out y hmem) h
          generalize y.first = z at *
          have HC : Hid (∀ W, Vsl W W.heap.size A1 y.l → Calls Tryz.prog 47 #[.agg #[.int .u8 y.k, .int .i64 y.n, .slice A1 y.l.length d1]] W fun e w' => e = .returned (.int .i64 (z : Nat)) ∧ Below W.heap.size W w') := hcall
          have HB := Lib.hid hbw; have HK2 := Lib.hid hk1; have HW2 := Lib.hid hw; have HA1 := Lib.hid hA1
          have j0 : (0 : Int) ≤ (j : Int) := by omega
          have j1 : (j : Int) < (l.length : Int) := by omega
          clear hcall hA1 hy hmem hbw hk1 HK1 hA hw HW
          go_wp2_with fail
          refine (HC.out _ (HA1.out.more HB.out.size)).mono ?_
          rintro e w3 ⟨rfl, hb3⟩
          have HX := Lib.hid (And.intro (HK2.out.below hb3 HK2.out.lt) (HB.out.trans (hb3.mono HB.out.size)))
          clear hb3
          go_wp2_with fail
          go_roundw
          case rel => exact ⟨j + 1, z, by omega, by go_num, rfl, HW2.out, HX.out.1, HX.out.2⟩
          case measure => simp [intOf]; omega
        · have hw := HW.out
          rw [if_pos hq0] at hw
          have hq1 : ((q : Int) == 0) = false := beq_eq_false_iff_ne.2 (by omega)
          have HW2 := Lib.hid hw; have HB := Lib.hid hbw
          clear hw hbw hk1 HK1 hA HW
          go_wp2_with fail
          go_ret
          exact ⟨ret_int (by rw [← HW2.out]), HB.out⟩
      · obtain rfl : j = l.length := by omega
        have hw := HW.out
        rw [List.drop_length, V.firsts] at hw
        have hw' : q = R := by
          by_cases hq : q = 0
          · rw [if_neg (by omega)] at hw; omega
          · rw [if_pos hq] at hw; exact hw
        have HW2 := Lib.hid hw'; have HB := Lib.hid hbw
        clear hw hw' hbw hk1 HK1 hA HW
        go_wp2_with fail
        go_ret
        exact ⟨ret_int (by rw [← HW2.out]), HB.out⟩

set_option maxRecDepth 100000 in
set_option maxHeartbeats 1000000 in
theorem rsize_val : ∀ (x : V) (A : Option Addr) (c : Nat) (w : World), x.size ≤ 1000000 → Vsl w w.heap.size A x.l →
    Calls Tryz.prog 49 #[vAgg x A c] w fun e w' => e = .returned (.int .i64 (x.size : Nat)) ∧ Below w.heap.size w w' := by
  intro x
  induction x using V.ind with
  | h k n l ih =>
    intro A c w hsz hA
    change Vsl w w.heap.size A l at hA
    have hll : l.length ≤ 1000000 := by rw [V.size] at hsz; have := len_sizes l; omega
    have hsub : ∀ y ∈ l, y.size ≤ 1000000 := fun y hy => by rw [V.size] at hsz; have := size_mem hy; omega
    have IH := Lib.hid ih; have HS := Lib.hid hsub
    clear ih hsub
    show Calls Tryz.prog 49 #[.agg #[.int .u8 k, .int .i64 n, .slice A l.length c]] w fun e w' => e = .returned (.int .i64 ((V.mk k n l).size : Nat)) ∧ Below w.heap.size w w'
    have HK := Lib.hid (And.intro (Blk.new w 24 #[.int .u8 k, .int .i64 n, .slice A l.length c]) ((Below.refl w.heap.size w).alloc (Nat.le_refl _) (.cells #[.int .u8 k, .int .i64 n, .slice A l.length c] 24)))
    have H0 : Hid (1 + V.sizes (l.drop 0) = (V.mk k n l).size) := by show _ = _; rw [V.size]; rfl
    generalize (V.mk k n l).size = R at *
    go_enter Tryz.func49, Tryz.ntmps49
    go_wp2_with fail
    go_loopw [3, 4] (fun nn i wr => ∃ j q : Nat, j ≤ l.length ∧ i = .int .i64 j ∧ nn = .int .i64 q ∧ Hid (q + V.sizes (l.drop j) = R) ∧ Blk wr w.heap.size 24 #[.int .u8 k, .int .i64 n, .slice A l.length c] ∧ Below w.heap.size w wr) (fun _ i _ => l.length - (intOf i).toNat)
    case atStart => exact ⟨0, 1, Nat.zero_le _, rfl, rfl, H0.out, HK.out.1, HK.out.2⟩
    case round =>
      obtain ⟨j, q, hj, rfl, rfl, HW, hk1, hbw⟩ := hrel
      obtain ⟨⟨a0, a1, a2⟩, _⟩ := hk1.three
      by_cases hlt : j < l.length
      · obtain ⟨y, hy⟩ : ∃ y, l[j]? = some y := ⟨l[j], List.getElem?_eq_getElem hlt⟩
        have hw := HW.out
        rw [drop_cons hy, V.sizes] at hw
        obtain ⟨g1, o1, A1, d1, rfl, hg1, p0, p1, p2, hA1⟩ := (hA.held hbw).at_ hy
        have hmem : y ∈ l := List.mem_of_getElem? hy
        have hcall := fun W h => IH.out y hmem A1 d1 W (HS.out y hmem) h
        generalize y.size = z at *
        have hqz : q + z ≤ 1000000 := by omega
        have HC : Hid (∀ W, Vsl W W.heap.size A1 y.l → Calls Tryz.prog 49 #[.agg #[.int .u8 y.k, .int .i64 y.n, .slice A1 y.l.length d1]] W fun e w' => e = .returned (.int .i64 (z : Nat)) ∧ Below W.heap.size W w') := hcall
        have HB := Lib.hid hbw; have HK2 := Lib.hid hk1; have HW2 := Lib.hid hw; have HA1 := Lib.hid hA1
        have j0 : (0 : Int) ≤ (j : Int) := by omega
        have j1 : (j : Int) < (l.length : Int) := by omega
        clear hcall hA1 hy hmem hbw hk1 HK hA hw HW
        go_wp2_with fail
        refine (HC.out _ (HA1.out.more HB.out.size)).mono ?_
        rintro e w3 ⟨rfl, hb3⟩
        have HX := Lib.hid (And.intro (HK2.out.below hb3 HK2.out.lt) (HB.out.trans (hb3.mono HB.out.size)))
        clear hb3
        go_wp2_with fail
        go_roundw
        case rel => exact ⟨j + 1, q + z, by omega, by go_num, by go_num, by have := HW2.out; show _ = _; omega, HX.out.1, HX.out.2⟩
        case measure => simp [intOf]; omega
      · obtain rfl : j = l.length := by omega
        have hw := HW.out
        rw [List.drop_length, V.sizes] at hw
        have HW2 := Lib.hid hw; have HB := Lib.hid hbw
        clear hw hbw hk1 HK hA HW
        go_wp2_with fail
        go_ret
        exact ⟨ret_int (by rw [← HW2.out]; rfl), HB.out⟩

set_option maxRecDepth 100000 in
set_option maxHeartbeats 1000000 in
theorem rdeep_val : ∀ (x : V) (A : Option Addr) (c : Nat) (w : World), x.size ≤ 1000000 → Vsl w w.heap.size A x.l →
    Calls Tryz.prog 48 #[vAgg x A c] w fun e w' => e = .returned (.int .i64 (x.deep : Nat)) ∧ Below w.heap.size w w' := by
  intro x
  induction x using V.ind with
  | h k n l ih =>
    intro A c w hsz hA
    change Vsl w w.heap.size A l at hA
    have hds := deep_size (.mk k n l)
    have hll : l.length ≤ 1000000 := by rw [V.size] at hsz; have := len_sizes l; omega
    have hsub : ∀ y ∈ l, y.size ≤ 1000000 := fun y hy => by rw [V.size] at hsz; have := size_mem hy; omega
    have IH := Lib.hid ih; have HS := Lib.hid hsub
    clear ih hsub
    show Calls Tryz.prog 48 #[.agg #[.int .u8 k, .int .i64 n, .slice A l.length c]] w fun e w' => e = .returned (.int .i64 ((V.mk k n l).deep : Nat)) ∧ Below w.heap.size w w'
    have HK := Lib.hid (And.intro (Blk.new w 24 #[.int .u8 k, .int .i64 n, .slice A l.length c]) ((Below.refl w.heap.size w).alloc (Nat.le_refl _) (.cells #[.int .u8 k, .int .i64 n, .slice A l.length c] 24)))
    have H0 : Hid (1 + max 0 (V.deeps (l.drop 0)) = (V.mk k n l).deep) := by show _ = _; rw [V.deep]; simp
    generalize (V.mk k n l).deep = R at *
    go_enter Tryz.func48, Tryz.ntmps48
    go_wp2_with fail
    go_loopw [3, 4] (fun nn i wr => ∃ j q : Nat, j ≤ l.length ∧ i = .int .i64 j ∧ nn = .int .i64 q ∧ Hid (1 + max q (V.deeps (l.drop j)) = R) ∧ Blk wr w.heap.size 24 #[.int .u8 k, .int .i64 n, .slice A l.length c] ∧ Below w.heap.size w wr) (fun _ i _ => l.length - (intOf i).toNat)
    case atStart => exact ⟨0, 0, Nat.zero_le _, rfl, rfl, H0.out, HK.out.1, HK.out.2⟩
    case round =>
      obtain ⟨j, q, hj, rfl, rfl, HW, hk1, hbw⟩ := hrel
      obtain ⟨⟨a0, a1, a2⟩, _⟩ := hk1.three
      by_cases hlt : j < l.length
      · obtain ⟨y, hy⟩ : ∃ y, l[j]? = some y := ⟨l[j], List.getElem?_eq_getElem hlt⟩
        have hw := HW.out
        rw [drop_cons hy, V.deeps] at hw
        obtain ⟨g1, o1, A1, d1, rfl, hg1, p0, p1, p2, hA1⟩ := (hA.held hbw).at_ hy
        have hmem : y ∈ l := List.mem_of_getElem? hy
        have hcall := fun W h => IH.out y hmem A1 d1 W (HS.out y hmem) h
        generalize y.deep = z at *
        have hqz : max q z ≤ 1000000 := by omega
        have HC : Hid (∀ W, Vsl W W.heap.size A1 y.l → Calls Tryz.prog 48 #[.agg #[.int .u8 y.k, .int .i64 y.n, .slice A1 y.l.length d1]] W fun e w' => e = .returned (.int .i64 (z : Nat)) ∧ Below W.heap.size W w') := hcall
        have HB := Lib.hid hbw; have HK2 := Lib.hid hk1; have HW2 := Lib.hid hw; have HA1 := Lib.hid hA1
        have j0 : (0 : Int) ≤ (j : Int) := by omega
        have j1 : (j : Int) < (l.length : Int) := by omega
        clear hcall hA1 hy hmem hbw hk1 HK hA hw HW
        go_wp2_with fail
        refine (HC.out _ (HA1.out.more HB.out.size)).mono ?_
        rintro e w3 ⟨rfl, hb3⟩
        have HX := Lib.hid (And.intro (HK2.out.below hb3 HK2.out.lt) (HB.out.trans (hb3.mono HB.out.size)))
        clear hb3
        go_wp2_with fail
        go_roundw
        case rel => exact ⟨j + 1, max q z, by omega, by go_num, by simp; omega, by have := HW2.out; show _ = _; omega, HX.out.1, HX.out.2⟩
        case measure => simp [intOf]; omega
      · obtain rfl : j = l.length := by omega
        have hw := HW.out
        rw [List.drop_length, V.deeps] at hw
        have hw' : q + 1 = R := by omega
        have HW2 := Lib.hid hw'; have HB := Lib.hid hbw
        have hq9 : q ≤ 1000000 := by omega
        clear hw hw' hbw hk1 HK hA HW
        go_wp2_with fail
        go_ret
        exact ⟨ret_int (by rw [← HW2.out]; rfl), HB.out⟩
end

/-! The walks of the reference's Check (values). -/
section
open Go.RowKit

set_option maxRecDepth 100000 in
set_option maxHeartbeats 1000000 in
theorem rcheck_val (x : V) (A : Option Addr) (c : Nat) (w : World) (hsz : x.size ≤ 1000000) (hV : Vsl w w.heap.size A x.l) :
    Calls Tryz.prog 34 #[.agg #[.int .u8 x.k, .int .i64 x.n, .slice A x.l.length c]] w fun e w' => e = .returned (.int .i64 (x.check : Nat)) ∧ Below w.heap.size w w' := by
  have H1 := Lib.hid (fun W hV => rall_val x A c W hsz hV)
  have H2 := Lib.hid (fun W hV => rdeep_val x A c W hsz hV)
  have H3 := Lib.hid (fun W hV => rsize_val x A c W hsz hV)
  change Hid (∀ W, Vsl W W.heap.size A x.l → Calls Tryz.prog 47 #[.agg #[.int .u8 x.k, .int .i64 x.n, .slice A x.l.length c]] W _) at H1
  change Hid (∀ W, Vsl W W.heap.size A x.l → Calls Tryz.prog 48 #[.agg #[.int .u8 x.k, .int .i64 x.n, .slice A x.l.length c]] W _) at H2
  change Hid (∀ W, Vsl W W.heap.size A x.l → Calls Tryz.prog 49 #[.agg #[.int .u8 x.k, .int .i64 x.n, .slice A x.l.length c]] W _) at H3
  have hC : x.check = if x.first ≠ 0 then x.first else if 128 < x.deep then 9 else if 4096 < x.size then 5 else 0 := rfl
  have HC := Lib.hid hC
  have HV := Lib.hid hV
  clear hC hV
  generalize x.check = C at *
  generalize x.first = F at *
  have hD : x.deep ≤ 1000000 := Nat.le_trans (deep_size x) hsz
  generalize x.deep = D at *
  generalize x.size = S at *
  go_enter Tryz.func34, Tryz.ntmps34
  go_wp2_with fail
  refine (H1.out _ ((HV.out.alloc (Nat.le_refl _) _).more (by simp))).mono ?_
  rintro e w1 ⟨rfl, hb1⟩
  have hk1 := (Blk.new w 24 #[.int .u8 x.k, .int .i64 x.n, .slice A x.l.length c]).below hb1 (by simp)
  have hbw := ((Below.refl w.heap.size w).alloc (Nat.le_refl _) (.cells #[.int .u8 x.k, .int .i64 x.n, .slice A x.l.length c] 24)).trans (hb1.mono (by simp))
  have HX := Lib.hid (And.intro hbw hk1)
  obtain ⟨⟨q0, q1, q2⟩, _⟩ := hk1.three
  clear hk1 hbw hb1 H1
  by_cases hF : F = 0
  · subst hF
    have hc : Hid (C = if 128 < D then 9 else if 4096 < S then 5 else 0) := HC.out
    clear HC
    by_cases hD1 : 128 < D
    · have d1 : (128 : Int) < (D : Int) := by omega
      have hc9 : Hid (C = 9) := by show _ = _; rw [hc.out, if_pos hD1]
      clear hc
      go_wp2_with fail
      refine (H2.out _ ((HV.out.held HX.out.1).more HX.out.1.size)).mono ?_
      rintro e w2 ⟨rfl, hb2⟩
      have HY := Lib.hid (HX.out.1.trans (hb2.mono HX.out.1.size))
      clear hb2
      go_wp2_with fail
      go_ret
      exact ⟨by rw [hc9.out]; rfl, HY.out⟩
    · have d1 : ¬ (128 : Int) < (D : Int) := by omega
      have hc9 : Hid (C = if 4096 < S then 5 else 0) := by show _ = _; rw [hc.out, if_neg hD1]
      clear hc
      by_cases hS1 : 4096 < S
      · have s1 : (4096 : Int) < (S : Int) := by omega
        have hc5 : Hid (C = 5) := by show _ = _; rw [hc9.out, if_pos hS1]
        clear hc9
        go_wp2_with fail
        refine (H2.out _ ((HV.out.held HX.out.1).more HX.out.1.size)).mono ?_
        rintro e w2 ⟨rfl, hb2⟩
        have hk2 := HX.out.2.below hb2 HX.out.2.lt
        obtain ⟨⟨q0, q1, q2⟩, _⟩ := hk2.three
        have HY := Lib.hid (HX.out.1.trans (hb2.mono HX.out.1.size))
        clear hb2 hk2
        go_wp2_with fail
        refine (H3.out _ ((HV.out.held HY.out).more HY.out.size)).mono ?_
        rintro e w3 ⟨rfl, hb3⟩
        have HZ := Lib.hid (HY.out.trans (hb3.mono HY.out.size))
        clear hb3
        go_wp2_with fail
        go_ret
        exact ⟨by rw [hc5.out]; rfl, HZ.out⟩
      · have s1 : ¬ (4096 : Int) < (S : Int) := by omega
        have hc5 : Hid (C = 0) := by show _ = _; rw [hc9.out, if_neg hS1]
        clear hc9
        go_wp2_with fail
        refine (H2.out _ ((HV.out.held HX.out.1).more HX.out.1.size)).mono ?_
        rintro e w2 ⟨rfl, hb2⟩
        have hk2 := HX.out.2.below hb2 HX.out.2.lt
        obtain ⟨⟨q0, q1, q2⟩, _⟩ := hk2.three
        have HY := Lib.hid (HX.out.1.trans (hb2.mono HX.out.1.size))
        clear hb2 hk2
        go_wp2_with fail
        refine (H3.out _ ((HV.out.held HY.out).more HY.out.size)).mono ?_
        rintro e w3 ⟨rfl, hb3⟩
        have HZ := Lib.hid (HY.out.trans (hb3.mono HY.out.size))
        clear hb3
        go_wp2_with fail
        go_ret
        exact ⟨by rw [hc5.out]; rfl, HZ.out⟩
  · have hc : Hid (C = F) := by show _ = _; rw [HC.out, if_pos hF]
    have f1 : ((F : Int) == 0) = false := beq_eq_false_iff_ne.2 (by omega)
    clear HC
    go_wp2_with fail
    go_ret
    exact ⟨by rw [hc.out]; rfl, HX.out.1⟩
end

/-! The walk of the reference's text of a value. -/
section
open Go.RowKit

theorem num_pair (n : Int) (hn : -1099511627776 ≤ n ∧ n ≤ 1099511627776) : ∃ (q : Nat) (neg : Bool) (v : Nat),
    (∀ W, Calls Tryz.prog 51 #[.int .i64 n] W (IntR W q neg v)) ∧
    (∀ B c W, Num5 W B v → Calls Tryz.prog 50 #[.agg #[.bool neg, .slice B q c]] W fun e w' => e = .returned (.string (bs (Lib.itoa n))) ∧ Below W.heap.size W w') := by
  by_cases h0 : 0 ≤ n
  · obtain ⟨v, rfl⟩ : ∃ v : Nat, n = v := ⟨n.toNat, by omega⟩
    exact ⟨_, false, v, fun W => iof_pos v W (by omega) _ rfl, fun B c W hB => rshow5_any false v _ B c W hB rfl (Nat.lt_of_le_of_lt (show v ≤ 1099511627776 by omega) (by decide)) (fun h => by cases h) _ (itoa_pos v).symm⟩
  · obtain ⟨v, hv⟩ : ∃ v : Nat, n = -(v : Int) := ⟨(-n).toNat, by omega⟩
    exact ⟨_, true, v, fun W => iof_neg n v hv W (by omega) (by omega) _ rfl, fun B c W hB => rshow5_any true v _ B c W hB rfl (Nat.lt_of_le_of_lt (show v ≤ 1099511627776 by omega) (by decide)) (fun _ => by omega) _ (itoa_neg n v hv (by omega)).symm⟩

set_option maxRecDepth 100000 in
set_option maxHeartbeats 1000000 in
theorem rtext_num (n : Int) (hn : -1099511627776 ≤ n ∧ n ≤ 1099511627776) (A : Option Addr) (c : Nat) (w : World) :
    Calls Tryz.prog 35 #[.agg #[.int .u8 1, .int .i64 n, .slice A 0 c]] w fun e w' => e = .returned (.string (bs (Lib.itoa n))) ∧ Below w.heap.size w w' := by
  obtain ⟨q, neg, v, h1, h2⟩ := num_pair n hn
  have H1 := Lib.hid h1; have H2 := Lib.hid h2
  generalize bs (Lib.itoa n) = X at *
  clear h1 h2
  go_enter Tryz.func35, Tryz.ntmps35
  go_wp2_with fail
  refine (H1.out _).mono ?_
  rintro e w1 ⟨B, d, rfl, hB, hb1⟩
  have HX := Lib.hid (((Below.refl w.heap.size w).alloc (Nat.le_refl _) (.cells #[.int .u8 1, .int .i64 n, .slice A 0 c] 24)).trans (hb1.mono (by simp)))
  have HB := Lib.hid hB
  clear hb1 hB
  go_wp2_with fail
  refine (H2.out _ _ _ HB.out).mono ?_
  rintro e w2 ⟨rfl, hb2⟩
  have HY := Lib.hid (HX.out.trans (hb2.mono HX.out.size))
  clear hb2
  go_wp2_with fail
  go_ret
  exact ⟨rfl, HY.out⟩

set_option maxRecDepth 100000 in
set_option maxHeartbeats 1000000 in
theorem rtext_bool (n : Int) (hn : n = 0 ∨ n = 1) (A : Option Addr) (c : Nat) (w : World) :
    Calls Tryz.prog 35 #[.agg #[.int .u8 2, .int .i64 n, .slice A 0 c]] w fun e w' => e = .returned (.string (bs (if n = 1 then [116, 114, 117, 101] else [102, 97, 108, 115, 101]))) ∧ Below w.heap.size w w' := by
  have HX := Lib.hid ((Below.refl w.heap.size w).alloc (Nat.le_refl _) (.cells #[.int .u8 2, .int .i64 n, .slice A 0 c] 24))
  rcases hn with rfl | rfl
  · go_enter Tryz.func35, Tryz.ntmps35
    go_wp2_with fail
    go_ret
    exact ⟨rfl, HX.out⟩
  · go_enter Tryz.func35, Tryz.ntmps35
    go_wp2_with fail
    go_ret
    exact ⟨rfl, HX.out⟩

/-- The reference writes this value's text. -/
def RText (x : V) : Prop := ∀ (A : Option Addr) (c : Nat) (w : World), x.size ≤ 1000000 → Vsl w w.heap.size A x.l →
    Calls Tryz.prog 35 #[.agg #[.int .u8 x.k, .int .i64 x.n, .slice A x.l.length c]] w fun e w' => e = .returned (.string (bs x.text)) ∧ Below w.heap.size w w'
theorem bs_to {S : ByteArray} {l : List UInt8} (h : S.data.toList = l) : S = bs l := by rw [← h, bs_of]
theorem texts_next {l : List V} {j : Nat} {x : V} (h : l[j]? = some x) : V.texts (j == 0) (l.drop j) = (if 0 < j then [32] else []) ++ (x.text ++ V.texts (j + 1 == 0) (l.drop (j + 1))) := by
  rw [drop_cons h, V.texts]
  have e2 : (j + 1 == 0) = false := rfl
  rw [e2]
  cases j with
  | zero => rfl
  | succ j => rfl

set_option maxRecDepth 100000 in
set_option maxHeartbeats 1000000 in
theorem rtext_row (k : Nat) (l : List V) (ih : ∀ x ∈ l, RText x) (hk : k = 3 ∨ k = 4) (A : Option Addr) (c : Nat) (w : World) (hsz : V.sizes l ≤ 1000000) (hlen : (V.texts true l).length ≤ 100000000) (hA : Vsl w w.heap.size A l) :
    Calls Tryz.prog 35 #[.agg #[.int .u8 k, .int .i64 0, .slice A l.length c]] w fun e w' => e = .returned (.string (bs (openB k :: (V.texts true l ++ [shutB k])))) ∧ Below w.heap.size w w' := by
  have hll : l.length ≤ 1000000 := by have := len_sizes l; omega
  have hsub : ∀ y ∈ l, y.size ≤ 1000000 := fun y hy => by have := size_mem hy; omega
  have IH := Lib.hid ih; have HS := Lib.hid hsub
  clear ih hsub hsz
  have HK := Lib.hid (And.intro (Blk.new w 24 #[.int .u8 k, .int .i64 0, .slice A l.length c]) ((Below.refl w.heap.size w).alloc (Nat.le_refl _) (.cells #[.int .u8 k, .int .i64 0, .slice A l.length c] 24)))
  have hfin : ∀ S : ByteArray, S.data.toList = V.texts true l → ∀ b e, b = (⟨#[openB k]⟩ : ByteArray) → e = (⟨#[shutB k]⟩ : ByteArray) → b ++ S ++ e = bs (openB k :: (V.texts true l ++ [shutB k])) := by
    intro S hS b e hb he
    subst hb he
    refine bs_to ?_
    simp [hS]
  have HF := Lib.hid hfin
  have H0 : Hid ((⟨#[]⟩ : ByteArray).data.toList ++ V.texts (0 == 0) (l.drop 0) = V.texts true l) := rfl
  generalize V.texts true l = R at *
  clear hfin
  have k1 : ((k : Int) == 1) = false := beq_eq_false_iff_ne.2 (by omega)
  have k2 : ((k : Int) == 2) = false := beq_eq_false_iff_ne.2 (by omega)
  go_enter Tryz.func35, Tryz.ntmps35
  go_wp2_with fail
  go_loopw [3, 4] (fun ss i wr => ∃ (j : Nat) (S : ByteArray), j ≤ l.length ∧ i = .int .i64 j ∧ ss = .string S ∧ Hid (S.data.toList ++ V.texts (j == 0) (l.drop j) = R) ∧ Blk wr w.heap.size 24 #[.int .u8 k, .int .i64 0, .slice A l.length c] ∧ Below w.heap.size w wr) (fun _ i _ => l.length - (intOf i).toNat)
  case atStart => exact ⟨0, _, Nat.zero_le _, rfl, rfl, H0.out, HK.out.1, HK.out.2⟩
  case round =>
    obtain ⟨j, S, hj, rfl, rfl, HW, hk1, hbw⟩ := hrel
    obtain ⟨⟨a0, a1, a2⟩, _⟩ := hk1.three
    by_cases hlt : j < l.length
    · obtain ⟨y, hy⟩ : ∃ y, l[j]? = some y := ⟨l[j], List.getElem?_eq_getElem hlt⟩
      have hw := HW.out
      rw [texts_next hy] at hw
      obtain ⟨g1, o1, A1, d1, rfl, hg1, p0, p1, p2, hA1⟩ := (hA.held hbw).at_ hy
      have hmem : y ∈ l := List.mem_of_getElem? hy
      have hcall := fun W h => IH.out y hmem A1 d1 W (HS.out y hmem) h
      have HC := Lib.hid hcall
      have HB := Lib.hid hbw; have HK2 := Lib.hid hk1; have HA1 := Lib.hid hA1
      have hS1 : S.size + y.text.length + 1 ≤ 100000001 := by
        have h := congrArg List.length hw
        simp only [List.length_append] at h
        have : S.data.toList.length = S.size := by simp
        omega
      have hy1 : (bs y.text).size = y.text.length := bs_size _
      have hw2 : ∀ S' : ByteArray, S' = (if 0 < j then S ++ (⟨#[32]⟩ : ByteArray) else S) → (S' ++ bs y.text).data.toList ++ V.texts (j + 1 == 0) (l.drop (j + 1)) = R := by
        intro S' e
        subst e
        rw [← hw]
        by_cases h : 0 < j
        · rw [if_pos h, if_pos h]; simp [bs]
        · rw [if_neg h, if_neg h]; simp [bs]
      have HW2 := Lib.hid hw2
      have j0 : (0 : Int) ≤ (j : Int) := by omega
      have j1 : (j : Int) < (l.length : Int) := by omega
      clear hcall hA1 hy hmem hbw hk1 HK hA hw hw2 HW
      generalize y.text = Y at *
      by_cases hj0 : 0 < j
      · have j2 : (0 : Int) < (j : Int) := by omega
        go_wp2_with fail
        refine (HC.out _ (HA1.out.more HB.out.size)).mono ?_
        rintro e w3 ⟨rfl, hb3⟩
        have HX := Lib.hid (And.intro (HK2.out.below hb3 HK2.out.lt) (HB.out.trans (hb3.mono HB.out.size)))
        clear hb3
        go_wp2_with fail
        go_roundw
        case rel => exact ⟨j + 1, _, by omega, by go_num, rfl, HW2.out _ (by rw [if_pos hj0]), HX.out.1, HX.out.2⟩
        case measure => simp [intOf]; omega
      · have j2 : ¬ (0 : Int) < (j : Int) := by omega
        go_wp2_with fail
        refine (HC.out _ (HA1.out.more HB.out.size)).mono ?_
        rintro e w3 ⟨rfl, hb3⟩
        have HX := Lib.hid (And.intro (HK2.out.below hb3 HK2.out.lt) (HB.out.trans (hb3.mono HB.out.size)))
        clear hb3
        go_wp2_with fail
        go_roundw
        case rel => exact ⟨j + 1, _, by omega, by go_num, rfl, HW2.out _ (by rw [if_neg hj0]), HX.out.1, HX.out.2⟩
        case measure => simp [intOf]; omega
    · obtain rfl : j = l.length := by omega
      have hw := HW.out
      rw [List.drop_length, V.texts, List.append_nil] at hw
      have hS1 : S.size ≤ 100000000 := by rw [← hw] at hlen; simpa using hlen
      have HF2 := Lib.hid (HF.out S hw); have HB := Lib.hid hbw
      rcases hk with rfl | rfl
      · clear hw hbw hk1 HK hA HW HF
        go_wp2_with fail
        go_ret
        exact ⟨congrArg (fun x => Ending.returned (.string x)) (HF2.out ⟨#[60]⟩ ⟨#[62]⟩ rfl rfl), HB.out⟩
      · clear hw hbw hk1 HK hA HW HF
        go_wp2_with fail
        go_ret
        exact ⟨congrArg (fun x => Ending.returned (.string x)) (HF2.out ⟨#[91]⟩ ⟨#[93]⟩ rfl rfl), HB.out⟩
theorem rtext_any : ∀ x : V, x.first = 0 → RText x := by
  intro x
  induction x using V.ind with
  | h k n l ih =>
    intro hf A c w hsz hA
    obtain ⟨h0, hs⟩ := first_node hf
    change Vsl w w.heap.size A l at hA
    show Calls Tryz.prog 35 #[.agg #[.int .u8 k, .int .i64 n, .slice A l.length c]] w _
    rw [V.size] at hsz
    rcases node_cases h0 with ⟨rfl, rfl, hn⟩ | ⟨rfl, rfl, hn⟩ | ⟨hk, rfl, hl⟩
    · have ht : (V.mk 1 n []).text = Lib.itoa n := by rw [V.text, if_pos rfl]
      rw [ht]
      exact rtext_num n hn A c w
    · have ht : (V.mk 2 n []).text = if n = 1 then [116, 114, 117, 101] else [102, 97, 108, 115, 101] := by rw [V.text, if_neg (by decide), if_pos rfl]
      rw [ht]
      exact rtext_bool n hn A c w
    · have ht : (V.mk k 0 l).text = openB k :: (V.texts true l ++ [shutB k]) := by rw [V.text, if_neg (by omega), if_neg (by omega)]
      rw [ht]
      have hlen := text_len (.mk k 0 l) hf
      rw [V.size, ht] at hlen
      simp only [List.length_cons, List.length_append] at hlen
      exact rtext_row k l (fun x hx => ih x hx (hs x hx)) hk A c w (by omega) (by omega) hA
end

/-! The walk of the reference's Show of values, and of the statement VtextShows. -/
section
open Go.RowKit

set_option maxRecDepth 100000 in
set_option maxHeartbeats 1000000 in
theorem rshow16_any (x : V) (A : Option Addr) (c : Nat) (w : World) (hsz : x.size ≤ 1000000) (hV : Vsl w w.heap.size A x.l) :
    Calls Tryz.prog 14 #[.agg #[.int .u8 x.k, .int .i64 x.n, .slice A x.l.length c]] w fun e w' => e = .returned (.tuple #[.string (bs (showV x).1), .int .i64 (showV x).2]) ∧ Below w.heap.size w w' := by
  have H1 := Lib.hid (fun W hV => rcheck_val x A c W hsz hV)
  have HV := Lib.hid hV
  clear hV
  by_cases hc : x.check = 0
  · have hf := (check_first hc).1
    have H2 := Lib.hid (fun W hV => rtext_any x hf A c W hsz hV)
    have hlen := text_len x hf
    have hl1 : x.text.length ≤ 100000000 := by omega
    have hl2 := bs_size x.text
    rw [hc] at H1
    by_cases hl : 65536 < x.text.length
    · have hs : showV x = ([], 5) := by unfold showV; rw [if_neg (by omega), if_pos hl]
      rw [hs]
      have t1 : (65536 : Int) < ((bs x.text).size : Int) := by omega
      clear hlen hf hl hs
      go_enter Tryz.func14, Tryz.ntmps14
      go_wp2_with fail
      refine (H1.out _ ((HV.out.alloc (Nat.le_refl _) _).more (by simp))).mono ?_
      rintro e w1 ⟨rfl, hb1⟩
      have hk1 := (Blk.new w 24 #[.int .u8 x.k, .int .i64 x.n, .slice A x.l.length c]).below hb1 (by simp)
      obtain ⟨⟨q0, q1, q2⟩, _⟩ := hk1.three
      have HX := Lib.hid (((Below.refl w.heap.size w).alloc (Nat.le_refl _) (.cells #[.int .u8 x.k, .int .i64 x.n, .slice A x.l.length c] 24)).trans (hb1.mono (by simp)))
      clear hb1 hk1
      go_wp2_with fail
      refine (H2.out _ ((HV.out.held HX.out).more HX.out.size)).mono ?_
      rintro e w2 ⟨rfl, hb2⟩
      have HY := Lib.hid (HX.out.trans (hb2.mono HX.out.size))
      clear hb2
      go_wp2_with fail
      refine bodyPost_ret (v := .tuple #[.string ⟨#[]⟩, .int .i64 5]) (by simp [results, Tryz.results14, go_sem]) rfl ⟨rfl, HY.out⟩
    · have hs : showV x = (x.text, 0) := showV_of hc (by omega)
      rw [hs]
      have t1 : ¬ (65536 : Int) < ((bs x.text).size : Int) := by omega
      clear hlen hf hl hs
      go_enter Tryz.func14, Tryz.ntmps14
      go_wp2_with fail
      refine (H1.out _ ((HV.out.alloc (Nat.le_refl _) _).more (by simp))).mono ?_
      rintro e w1 ⟨rfl, hb1⟩
      have hk1 := (Blk.new w 24 #[.int .u8 x.k, .int .i64 x.n, .slice A x.l.length c]).below hb1 (by simp)
      obtain ⟨⟨q0, q1, q2⟩, _⟩ := hk1.three
      have HX := Lib.hid (((Below.refl w.heap.size w).alloc (Nat.le_refl _) (.cells #[.int .u8 x.k, .int .i64 x.n, .slice A x.l.length c] 24)).trans (hb1.mono (by simp)))
      clear hb1 hk1
      go_wp2_with fail
      refine (H2.out _ ((HV.out.held HX.out).more HX.out.size)).mono ?_
      rintro e w2 ⟨rfl, hb2⟩
      have HY := Lib.hid (HX.out.trans (hb2.mono HX.out.size))
      clear hb2
      go_wp2_with fail
      refine bodyPost_ret (v := .tuple #[.string (bs x.text), .int .i64 0]) (by simp [results, Tryz.results14, go_sem]) rfl ⟨rfl, HY.out⟩
  · have hs : showV x = ([], x.check) := by unfold showV; rw [if_pos hc]
    rw [hs]
    have e1 : ((x.check : Int) != 0) = true := bne_iff_ne.2 (by omega)
    clear hs hc
    go_enter Tryz.func14, Tryz.ntmps14
    go_wp2_with fail
    refine (H1.out _ ((HV.out.alloc (Nat.le_refl _) _).more (by simp))).mono ?_
    rintro e w1 ⟨rfl, hb1⟩
    have hk1 := (Blk.new w 24 #[.int .u8 x.k, .int .i64 x.n, .slice A x.l.length c]).below hb1 (by simp)
    obtain ⟨⟨q0, q1, q2⟩, _⟩ := hk1.three
    have HX := Lib.hid (((Below.refl w.heap.size w).alloc (Nat.le_refl _) (.cells #[.int .u8 x.k, .int .i64 x.n, .slice A x.l.length c] 24)).trans (hb1.mono (by simp)))
    clear hb1 hk1
    go_wp2_with fail
    refine bodyPost_ret (v := .tuple #[.string ⟨#[]⟩, .int .i64 x.check]) (by simp [results, Tryz.results14, go_sem]) rfl ⟨rfl, HX.out⟩

theorem str_same (S : ByteArray) : (S.toList == S.toList) = true := beq_self_eq_true _
set_option maxRecDepth 100000 in
set_option maxHeartbeats 4000000 in
theorem vshows_row (x : V) (A : Option Addr) (c : Nat) (w : World) (hv : Env w) (hV : Vsl w w.heap.size A x.l) (hF : x.Fits) :
    Calls Tryz.prog 3 #[.agg #[.int .u8 x.k, .int .i64 x.n, .slice A x.l.length c]] w fun e w' => e = .returned (.bool true) ∧ Below w.heap.size w w' := by
  have HA := Lib.hid (fun W hW => awake_any W hW)
  have P0 := pt_start (c := c) hv hV
  have hL := long_one x A c _ P0.v hF
  have HP := Lib.hid P0
  rw [World.size_alloc] at hL
  clear P0 hv hV
  by_cases hlong : 6000 ≤ V.weighs [x] 0 6000
  · rw [decide_eq_true hlong] at hL
    have HLo := Lib.hid hL
    clear hL hlong
    go_enter Tryz.func3, Tryz.ntmps3
    go_wp2_with fail
    refine HLo.out.mono ?_
    rintro e w1 ⟨rfl, hb⟩
    have HQ := Lib.hid (HP.out.held (by simpa using hb))
    clear hb
    go_wp2_with fail
    refine (HA.out _ HQ.out.e).mono ?_
    rintro e w2 ⟨rfl, hb2⟩
    have HX := Lib.hid (HQ.out.held hb2)
    clear hb2
    go_wp2_with fail
    go_ret
    exact ⟨rfl, HX.out.b⟩
  · rw [decide_eq_false hlong] at hL
    have hsz : x.size < 6000 := by
      have h := weighs_size [x] 0 6000 (by omega)
      rw [V.sizes, V.sizes] at h
      omega
    have HLo := Lib.hid hL
    clear hL hlong
    have HSh := Lib.hid (fun W (hW : Pt w W x A c) => vshow_any x A c W hW.e hW.v (by omega))
    change Hid (∀ W, Pt w W x A c → Calls Tryz.prog 13 #[.agg #[.int .u8 x.k, .int .i64 x.n, .slice A x.l.length c]] W fun e w' => e = .returned (.tuple #[.string (bs (showV x).1), .int .i64 (showV x).2]) ∧ Below W.heap.size W w') at HSh
    have HSr := Lib.hid (fun W (hW : Pt w W x A c) => rshow16_any x A c W (by omega) hW.v)
    generalize bs (showV x).1 = S at *
    generalize (showV x).2 = er at *
    have e1 := str_same S
    have e2 : ((er : Int) == (er : Int)) = true := beq_self_eq_true _
    go_enter Tryz.func3, Tryz.ntmps3
    go_wp2_with fail
    refine HLo.out.mono ?_
    rintro e w1 ⟨rfl, hb⟩
    have hQ := HP.out.held (by simpa using hb)
    obtain ⟨⟨z0, z1, z2⟩, _⟩ := hQ.k.three
    have HQ := Lib.hid hQ
    clear hb hQ
    go_wp2_with fail
    refine (HSh.out _ HQ.out).mono ?_
    rintro e w2 ⟨rfl, hb2⟩
    have hQ2 := HQ.out.held hb2
    clear z0 z1 z2
    obtain ⟨⟨z0, z1, z2⟩, _⟩ := hQ2.k.three
    have HQ2 := Lib.hid hQ2
    clear hb2 hQ2
    go_wp2_with fail
    refine (HSr.out _ HQ2.out).mono ?_
    rintro e w3 ⟨rfl, hb3⟩
    have HQ3 := Lib.hid (HQ2.out.held hb3)
    clear hb3 z0 z1 z2
    go_wp2_with fail
    refine (HA.out _ HQ3.out.e).mono ?_
    rintro e w4 ⟨rfl, hb4⟩
    have HQ4 := Lib.hid (HQ3.out.held hb4)
    clear hb4
    go_wp2_with fail
    go_ret
    exact ⟨rfl, HQ4.out.b⟩
end
end Go.Proofs.YtbhekkkijomglaaGreatDoor
