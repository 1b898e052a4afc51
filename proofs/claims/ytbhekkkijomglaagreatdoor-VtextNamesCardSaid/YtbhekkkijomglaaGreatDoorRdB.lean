/- The walk of begin: the value that a mark begins. -/
import Derived.Test.YtbhekkkijomglaaGreatDoorRdA
import Derived.Test.YtbhekkkijomglaaGreatDoorVspMZ
namespace Go.Proofs.YtbhekkkijomglaaGreatDoor
open Go.RowKit

def BgPost (w : World) (v : V) (er : Nat) (en : Ending) (w' : World) : Prop := en = .returned (.tuple #[vAgg v none 0, .int .i64 er]) ∧ Below w.heap.size w w'

/-- The result's block, behind a call. -/
theorem begin_held {w w1 : World} {cs : Array Value} (hb : Below ((w.alloc (.cells cs 54)).alloc (.cells #[.int .u8 0, .int .i64 0, .slice none 0 0] 24)).heap.size ((w.alloc (.cells cs 54)).alloc (.cells #[.int .u8 0, .int .i64 0, .slice none 0 0] 24)) w1) :
    ((w1.cell? ⟨w.heap.size + 1, 0, none⟩ = some (.int .u8 0) ∧ w1.cell? ⟨w.heap.size + 1, 1, none⟩ = some (.int .i64 0) ∧ w1.cell? ⟨w.heap.size + 1, 2, none⟩ = some (.slice none 0 0)) ∧ w1.frozen? ⟨w.heap.size + 1, 0, none⟩ = false ∧ w1.frozen? ⟨w.heap.size + 1, 1, none⟩ = false ∧ w1.frozen? ⟨w.heap.size + 1, 2, none⟩ = false) ∧ Hid (∀ u v x, Below w.heap.size w (((w1.setCell ⟨w.heap.size + 1, 0, none⟩ u).setCell ⟨w.heap.size + 1, 1, none⟩ v).setCell ⟨w.heap.size + 1, 2, none⟩ x)) := by
  have h1 := (Blk.new (w.alloc (.cells cs 54)) 24 #[.int .u8 0, .int .i64 0, .slice none 0 0]).below hb (by simp)
  rw [World.size_alloc] at h1
  refine ⟨h1.three, fun u v x => ?_⟩
  have h2 := (((Below.refl w.heap.size w).alloc (Nat.le_refl _) (.cells cs 54)).alloc (by simp) (.cells #[.int .u8 0, .int .i64 0, .slice none 0 0] 24)).trans (hb.mono (by simp; omega))
  exact ((h2.setCell (p := ⟨w.heap.size + 1, 0, none⟩) (Nat.le_succ _) u).setCell (p := ⟨w.heap.size + 1, 1, none⟩) (Nat.le_succ _) v).setCell (p := ⟨w.heap.size + 1, 2, none⟩) (Nat.le_succ _) x
theorem begin_new {w : World} (cs ds : Array Value) : Below w.heap.size w ((w.alloc (.cells cs 54)).alloc (.cells ds 24)) := ((Below.refl w.heap.size w).alloc (Nat.le_refl _) _).alloc (by simp) _

set_option maxRecDepth 100000 in
set_option maxHeartbeats 1000000 in
theorem begin_stop (b d : Nat) (n : Int) (l : List UInt8) (w : World) :
    Calls Tryz.prog 61 #[.agg #[.int .u8 10, .int .i64 b, .int .i64 d, .int .i64 n, .string (bs l)]] w (BgPost w (.mk 0 0 []) 4) := by
  have HB := Lib.hid (begin_new (w := w) #[.int .u8 10, .int .i64 b, .int .i64 d, .int .i64 n, .string (bs l)] #[.int .u8 0, .int .i64 0, .slice none 0 0])
  go_enter Tryz.func61, Tryz.ntmps61
  go_wp2_with fail
  refine bodyPost_ret (v := .tuple #[.agg #[.int .u8 0, .int .i64 0, .slice none 0 0], .int .i64 4]) (by simp [results, Tryz.results61, go_sem]) rfl ⟨rfl, ?_⟩
  exact HB.out

set_option maxRecDepth 100000 in
set_option maxHeartbeats 1000000 in
theorem begin_num (b d : Nat) (n : Int) (l : List UInt8) (w : World) :
    Calls Tryz.prog 61 #[.agg #[.int .u8 8, .int .i64 b, .int .i64 d, .int .i64 n, .string (bs l)]] w (BgPost w (.mk 1 n []) 0) := by
  have HN : Hid (∀ W, Calls Tryz.prog 91 #[.int .i64 n] W fun e w' => e = .returned (.agg #[.int .u8 1, .int .i64 n, .slice none 0 0]) ∧ Below W.heap.size W w') := fun W => num_any n W
  go_enter Tryz.func61, Tryz.ntmps61
  go_wp2_with fail
  refine (HN.out _).mono ?_
  rintro e w1 ⟨rfl, hb1⟩
  obtain ⟨⟨⟨z0, z1, z2⟩, g0, g1, g2⟩, HB⟩ := begin_held hb1
  clear hb1 HN
  go_wp2_with fail
  refine bodyPost_ret (v := .tuple #[.agg #[.int .u8 1, .int .i64 n, .slice none 0 0], .int .i64 0]) (by simp [results, Tryz.results61, go_sem, z0, z1, z2]) rfl ⟨rfl, ?_⟩
  exact HB.out _ _ _

set_option maxRecDepth 100000 in
set_option maxHeartbeats 1000000 in
theorem begin_less (b d : Nat) (n : Int) (l : List UInt8) (w : World) :
    Calls Tryz.prog 61 #[.agg #[.int .u8 5, .int .i64 b, .int .i64 d, .int .i64 n, .string (bs l)]] w (BgPost w (.mk 3 0 []) 0) := by
  have HN : Hid (∀ W, Calls Tryz.prog 24 #[.slice none 0 0] W fun e w' => e = .returned (.agg #[.int .u8 3, .int .i64 0, .slice none 0 0]) ∧ Below W.heap.size W w') := fun W => tuple_nil none 0 W
  go_enter Tryz.func61, Tryz.ntmps61
  go_wp2_with fail
  refine (HN.out _).mono ?_
  rintro e w1 ⟨rfl, hb1⟩
  obtain ⟨⟨⟨z0, z1, z2⟩, g0, g1, g2⟩, HB⟩ := begin_held hb1
  clear hb1 HN
  go_wp2_with fail
  refine bodyPost_ret (v := .tuple #[.agg #[.int .u8 3, .int .i64 0, .slice none 0 0], .int .i64 0]) (by simp [results, Tryz.results61, go_sem, z0, z1, z2]) rfl ⟨rfl, ?_⟩
  exact HB.out _ _ _

set_option maxRecDepth 100000 in
set_option maxHeartbeats 1000000 in
theorem begin_first (b d : Nat) (n : Int) (l : List UInt8) (w : World) :
    Calls Tryz.prog 61 #[.agg #[.int .u8 3, .int .i64 b, .int .i64 d, .int .i64 n, .string (bs l)]] w (BgPost w (.mk 4 0 []) 0) := by
  have HN : Hid (∀ W, Calls Tryz.prog 23 #[.slice none 0 0] W fun e w' => e = .returned (.agg #[.int .u8 4, .int .i64 0, .slice none 0 0]) ∧ Below W.heap.size W w') := fun W => list_nil none 0 W
  go_enter Tryz.func61, Tryz.ntmps61
  go_wp2_with fail
  refine (HN.out _).mono ?_
  rintro e w1 ⟨rfl, hb1⟩
  obtain ⟨⟨⟨z0, z1, z2⟩, g0, g1, g2⟩, HB⟩ := begin_held hb1
  clear hb1 HN
  go_wp2_with fail
  refine bodyPost_ret (v := .tuple #[.agg #[.int .u8 4, .int .i64 0, .slice none 0 0], .int .i64 0]) (by simp [results, Tryz.results61, go_sem, z0, z1, z2]) rfl ⟨rfl, ?_⟩
  exact HB.out _ _ _

set_option maxRecDepth 100000 in
set_option maxHeartbeats 1000000 in
theorem begin_else (b d : Nat) (n : Int) (l : List UInt8) (w : World) (k : Nat) (hk : k ≠ 10 ∧ k ≠ 8 ∧ k ≠ 7 ∧ k ≠ 5 ∧ k ≠ 3) :
    Calls Tryz.prog 61 #[.agg #[.int .u8 k, .int .i64 b, .int .i64 d, .int .i64 n, .string (bs l)]] w (BgPost w (.mk 0 0 []) 3) := by
  have e1 : ((k : Int) == 10) = false := beq_eq_false_iff_ne.2 (by omega)
  have e2 : ((k : Int) == 8) = false := beq_eq_false_iff_ne.2 (by omega)
  have e3 : ((k : Int) == 7) = false := beq_eq_false_iff_ne.2 (by omega)
  have e4 : ((k : Int) == 5) = false := beq_eq_false_iff_ne.2 (by omega)
  have e5 : ((k : Int) == 3) = false := beq_eq_false_iff_ne.2 (by omega)
  have HB := Lib.hid (begin_new (w := w) #[.int .u8 k, .int .i64 b, .int .i64 d, .int .i64 n, .string (bs l)] #[.int .u8 0, .int .i64 0, .slice none 0 0])
  go_enter Tryz.func61, Tryz.ntmps61
  go_wp2_with fail
  refine bodyPost_ret (v := .tuple #[.agg #[.int .u8 0, .int .i64 0, .slice none 0 0], .int .i64 3]) (by simp [results, Tryz.results61, go_sem]) rfl ⟨rfl, ?_⟩
  exact HB.out

set_option maxRecDepth 100000 in
set_option maxHeartbeats 1000000 in
theorem begin_true (b d : Nat) (n : Int) (x : ByteArray) (w : World) (e1 : (x.toList == [116, 114, 117, 101]) = true) (e2 : (x.toList == [102, 97, 108, 115, 101]) = false) :
    Calls Tryz.prog 61 #[.agg #[.int .u8 7, .int .i64 b, .int .i64 d, .int .i64 n, .string x]] w (BgPost w (.mk 2 1 []) 0) := by
  have HN : Hid (∀ W, Calls Tryz.prog 92 #[.bool true] W fun e w' => e = .returned (.agg #[.int .u8 2, .int .i64 1, .slice none 0 0]) ∧ Below W.heap.size W w') := fun W => bool_any true W
  go_enter Tryz.func61, Tryz.ntmps61
  go_wp2_with fail
  refine (HN.out _).mono ?_
  rintro e w1 ⟨rfl, hb1⟩
  obtain ⟨⟨⟨z0, z1, z2⟩, g0, g1, g2⟩, HB⟩ := begin_held hb1
  clear hb1 HN
  go_wp2_with fail
  refine bodyPost_ret (v := .tuple #[.agg #[.int .u8 2, .int .i64 1, .slice none 0 0], .int .i64 0]) (by simp [results, Tryz.results61, go_sem, z0, z1, z2]) rfl ⟨rfl, ?_⟩
  exact HB.out _ _ _

set_option maxRecDepth 100000 in
set_option maxHeartbeats 1000000 in
theorem begin_false (b d : Nat) (n : Int) (x : ByteArray) (w : World) (e1 : (x.toList == [116, 114, 117, 101]) = false) (e2 : (x.toList == [102, 97, 108, 115, 101]) = true) :
    Calls Tryz.prog 61 #[.agg #[.int .u8 7, .int .i64 b, .int .i64 d, .int .i64 n, .string x]] w (BgPost w (.mk 2 0 []) 0) := by
  have HN : Hid (∀ W, Calls Tryz.prog 92 #[.bool false] W fun e w' => e = .returned (.agg #[.int .u8 2, .int .i64 0, .slice none 0 0]) ∧ Below W.heap.size W w') := fun W => bool_any false W
  go_enter Tryz.func61, Tryz.ntmps61
  go_wp2_with fail
  refine (HN.out _).mono ?_
  rintro e w1 ⟨rfl, hb1⟩
  obtain ⟨⟨⟨z0, z1, z2⟩, g0, g1, g2⟩, HB⟩ := begin_held hb1
  clear hb1 HN
  go_wp2_with fail
  refine bodyPost_ret (v := .tuple #[.agg #[.int .u8 2, .int .i64 0, .slice none 0 0], .int .i64 0]) (by simp [results, Tryz.results61, go_sem, z0, z1, z2]) rfl ⟨rfl, ?_⟩
  exact HB.out _ _ _

set_option maxRecDepth 100000 in
set_option maxHeartbeats 1000000 in
theorem begin_word (b d : Nat) (n : Int) (x : ByteArray) (w : World) (e1 : (x.toList == [116, 114, 117, 101]) = false) (e2 : (x.toList == [102, 97, 108, 115, 101]) = false) :
    Calls Tryz.prog 61 #[.agg #[.int .u8 7, .int .i64 b, .int .i64 d, .int .i64 n, .string x]] w (BgPost w (.mk 0 0 []) 3) := by
  have HB := Lib.hid (begin_new (w := w) #[.int .u8 7, .int .i64 b, .int .i64 d, .int .i64 n, .string x] #[.int .u8 0, .int .i64 0, .slice none 0 0])
  go_enter Tryz.func61, Tryz.ntmps61
  go_wp2_with fail
  refine bodyPost_ret (v := .tuple #[.agg #[.int .u8 0, .int .i64 0, .slice none 0 0], .int .i64 3]) (by simp [results, Tryz.results61, go_sem]) rfl ⟨rfl, ?_⟩
  exact HB.out

/-- begin: the value that a mark begins, and what is wrong of it. -/
theorem begin_any (k b d : Nat) (n : Int) (l : List UInt8) (w : World) :
    Calls Tryz.prog 61 #[.agg #[.int .u8 k, .int .i64 b, .int .i64 d, .int .i64 n, .string (bs l)]] w (BgPost w (beginV (k, b, d, n, l)).1 (beginV (k, b, d, n, l)).2) := by
  have hl : (bs l).toList = l := by rw [Lib.toList_data]; exact bs_list l
  unfold beginV
  by_cases k10 : k = 10
  · subst k10; exact begin_stop b d n l w
  rw [if_neg k10]
  by_cases k8 : k = 8
  · subst k8; exact begin_num b d n l w
  rw [if_neg k8]
  by_cases k7 : k = 7
  · subst k7
    by_cases ht : l = trueW
    · subst ht
      exact begin_true b d n _ w (by rw [hl]; decide) (by rw [hl]; decide)
    by_cases hf : l = falseW
    · subst hf
      exact begin_false b d n _ w (by rw [hl]; decide) (by rw [hl]; decide)
    rw [if_neg (by simp [ht, hf]), if_neg (by simp), if_neg (by simp)]
    exact begin_word b d n _ w (by rw [hl]; exact beq_eq_false_iff_ne.2 ht) (by rw [hl]; exact beq_eq_false_iff_ne.2 hf)
  rw [if_neg (fun h => k7 h.1)]
  by_cases k5 : k = 5
  · subst k5; exact begin_less b d n l w
  rw [if_neg k5]
  by_cases k3 : k = 3
  · subst k3; exact begin_first b d n l w
  rw [if_neg k3]
  exact begin_else b d n l w k ⟨k10, k8, k7, k5, k3⟩
end Go.Proofs.YtbhekkkijomglaaGreatDoor
