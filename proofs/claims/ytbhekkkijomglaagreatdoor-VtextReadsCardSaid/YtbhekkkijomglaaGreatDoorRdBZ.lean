/- Put together: RdB, RdC, RdD, ValA. -/
import Derived.Test.YtbhekkkijomglaaGreatDoorRdA
import Derived.Test.YtbhekkkijomglaaGreatDoorRtFZ
import Derived.Test.YtbhekkkijomglaaGreatDoorValPZ
namespace Go.Proofs.YtbhekkkijomglaaGreatDoor
/-! The walk of begin: the value that a mark begins. -/
section
open Go.RowKit

def BgPost (w : World) (v : V) (er : Nat) (en : Ending) (w' : World) : Prop := en = .returned (.tuple #[vAgg v none 0, .int .i64 er]) ∧ Below w.heap.size w w'

/-- The result's block, behind a call. -/
theorem begin_held {w w1 : World} {cs : Array Value} (hb : Below ((w.alloc (.cells cs 54)).alloc (.cells #[.int .u8 0, .int .i64 0, .slice none 0 0] 24)).heap.size ((w.alloc (.cells cs 54)).alloc (.cells #[.int .u8 0, .int .i64 0, .slice none 0 0] 24)) w1) :
    ((w1.cell? ⟨w.heap.size + 1, 0, none⟩ = some (.int .u8 0) ∧ w1.cell? ⟨w.heap.size + 1, 1, none⟩ = some (.int .i64 0) ∧ w1.cell? ⟨w.heap.size + 1, 2, none⟩ = some (.slice none 0 0)) ∧ w1.frozen? ⟨w.heap.size + 1, 0, none⟩ = false ∧ w1.frozen? ⟨w.heap.size + 1, 1, none⟩ = false ∧ w1.frozen? ⟨w.heap.size + 1, 2, none⟩ = false) ∧ Hid (∀ u v x, Below w.heap.size w (((w1.setCell ⟨w.heap.size + 1, 0, none⟩ u).setCell ⟨w.heap.size + 1, 1, none⟩ v).setCell ⟨w.heap.size + 1, 2, none⟩ x)) := by
  have h1 := (Blk.new (w.alloc (.cells cs 54)) 24 #[.int .u8 0, .int .i64 0, .slice none 0 0]).below hb (by simp)
  rw [World.size_alloc] at h1
  refine ⟨h1.three, fun u v x => ?_⟩
  have h2 := (((Below.refl w.heap.size w).alloc (Nat.le_refl _) (.cells cs 54)).alloc (by simp) (.cells #[.int .u8 0, .int .i64 0, .slice none 0 0] 24)).trans (hb.mono (by simp; omega))
  exact ((h2.setCell (p := ⟨w.heap.size + 1, 0, none⟩) (Nat.le_succ _) u).setCell (p := ⟨w.heap.size + 1, 1, none⟩) (Nat.le_succ _) v).setCell (p := ⟨w.heap.size + 1, 2, none⟩) (Nat.le_succ _) x
theorem begin_new {w : World} (cs ds : Array Value) : Below w.heap.size w ((w.alloc (.cells cs 54)).alloc (.cells ds 24)) := ((Below.refl w.heap.size w).alloc (Nat.le_refl _) _).alloc (by simp) _

set_option maxRecDepth 100000 in
set_option maxHeartbeats 1000000 in
theorem begin_stop (b d : Nat) (n : Int) (l : List UInt8) (w : World) :
    Calls Tryz.prog 61 #[.agg #[.int .u8 10, .int .i64 b, .int .i64 d, .int .i64 n, .string (bs l)]] w (BgPost w (.mk 0 0 []) 4) := by
  have HB := Lib.hid (begin_new (w := w) #[.int .u8 10, .int .i64 b, .int .i64 d, .int .i64 n, .string (bs l)] #[.int .u8 0, .int .i64 0, .slice none 0 0])
  go_enter Tryz.func61, Tryz.ntmps61
  go_wp2_with fail
  refine bodyPost_ret (v := .tuple #[.agg #[.int .u8 0, .int .i64 0, .slice none 0 0], .int .i64 4]) (by simp [results, Tryz.results61, go_sem]) rfl ⟨rfl, ?_⟩
  exact HB.out

set_option maxRecDepth 100000 in
set_option maxHeartbeats 1000000 in
theorem begin_num (b d : Nat) (n : Int) (l : List UInt8) (w : World) :
    Calls Tryz.prog 61 #[.agg #[.int .u8 8, .int .i64 b, .int .i64 d, .int .i64 n, .string (bs l)]] w (BgPost w (.mk 1 n []) 0) := by
  have HN : Hid (∀ W, Calls Tryz.prog 91 #[.int .i64 n] W fun e w' => e = .returned (.agg #[.int .u8 1, .int .i64 n, .slice none 0 0]) ∧ Below W.heap.size W w') := fun W => num_any n W
  go_enter Tryz.func61, Tryz.ntmps61
  go_wp2_with fail
  refine (HN.out _).mono ?_
  rintro e w1 ⟨rfl, hb1⟩
  obtain ⟨⟨⟨z0, z1, z2⟩, g0, g1, g2⟩, HB⟩ := begin_held hb1
  clear hb1 HN
  go_wp2_with fail
  refine bodyPost_ret (v := .tuple #[.agg #[.int .u8 1, .int .i64 n, .slice none 0 0], .int .i64 0]) (by simp [results, Tryz.results61, go_sem, z0, z1, z2]) rfl ⟨rfl, ?_⟩
  exact HB.out _ _ _

set_option maxRecDepth 100000 in
set_option maxHeartbeats 1000000 in
theorem begin_less (b d : Nat) (n : Int) (l : List UInt8) (w : World) :
    Calls Tryz.prog 61 #[.agg #[.int .u8 5, .int .i64 b, .int .i64 d, .int .i64 n, .string (bs l)]] w (BgPost w (.mk 3 0 []) 0) := by
  have HN : Hid (∀ W, Calls Tryz.prog 24 #[.slice none 0 0] W fun e w' => e = .returned (.agg #[.int .u8 3, .int .i64 0, .slice none 0 0]) ∧ Below W.heap.size W w') := fun W => tuple_nil none 0 W
  go_enter Tryz.func61, Tryz.ntmps61
  go_wp2_with fail
  refine (HN.out _).mono ?_
  rintro e w1 ⟨rfl, hb1⟩
  obtain ⟨⟨⟨z0, z1, z2⟩, g0, g1, g2⟩, HB⟩ := begin_held hb1
  clear hb1 HN
  go_wp2_with fail
  refine bodyPost_ret (v := .tuple #[.agg #[.int .u8 3, .int .i64 0, .slice none 0 0], .int .i64 0]) (by simp [results, Tryz.results61, go_sem, z0, z1, z2]) rfl ⟨rfl, ?_⟩
  exact HB.out _ _ _

set_option maxRecDepth 100000 in
set_option maxHeartbeats 1000000 in
theorem begin_first (b d : Nat) (n : Int) (l : List UInt8) (w : World) :
    Calls Tryz.prog 61 #[.agg #[.int .u8 3, .int .i64 b, .int .i64 d, .int .i64 n, .string (bs l)]] w (BgPost w (.mk 4 0 []) 0) := by
  have HN : Hid (∀ W, Calls Tryz.prog 23 #[.slice none 0 0] W fun e w' => e = .returned (.agg #[.int .u8 4, .int .i64 0, .slice none 0 0]) ∧ Below W.heap.size W w') := fun W => list_nil none 0 W
  go_enter Tryz.func61, Tryz.ntmps61
  go_wp2_with fail
  refine (HN.out _).mono ?_
  rintro e w1 ⟨rfl, hb1⟩
  obtain ⟨⟨⟨z0, z1, z2⟩, g0, g1, g2⟩, HB⟩ := begin_held hb1
  clear hb1 HN
  go_wp2_with fail
  refine bodyPost_ret (v := .tuple #[.agg #[.int .u8 4, .int .i64 0, .slice none 0 0], .int .i64 0]) (by simp [results, Tryz.results61, go_sem, z0, z1, z2]) rfl ⟨rfl, ?_⟩
  exact HB.out _ _ _

set_option maxRecDepth 100000 in
set_option maxHeartbeats 1000000 in
theorem begin_else (b d : Nat) (n : Int) (l : List UInt8) (w : World) (k : Nat) (hk : k ≠ 10 ∧ k ≠ 8 ∧ k ≠ 7 ∧ k ≠ 5 ∧ k ≠ 3) :
    Calls Tryz.prog 61 #[.agg #[.int .u8 k, .int .i64 b, .int .i64 d, .int .i64 n, .string (bs l)]] w (BgPost w (.mk 0 0 []) 3) := by
  have e1 : ((k : Int) == 10) = false := beq_eq_false_iff_ne.2 (by omega)
  have e2 : ((k : Int) == 8) = false := beq_eq_false_iff_ne.2 (by omega)
  have e3 : ((k : Int) == 7) = false := beq_eq_false_iff_ne.2 (by omega)
  have e4 : ((k : Int) == 5) = false := beq_eq_false_iff_ne.2 (by omega)
  have e5 : ((k : Int) == 3) = false := beq_eq_false_iff_ne.2 (by omega)
  have HB := Lib.hid (begin_new (w := w) #[.int .u8 k, .int .i64 b, .int .i64 d, .int .i64 n, .string (bs l)] #[.int .u8 0, .int .i64 0, .slice none 0 0])
  go_enter Tryz.func61, Tryz.ntmps61
  go_wp2_with fail
  refine bodyPost_ret (v := .tuple #[.agg #[.int .u8 0, .int .i64 0, .slice none 0 0], .int .i64 3]) (by simp [results, Tryz.results61, go_sem]) rfl ⟨rfl, ?_⟩
  exact HB.out

set_option maxRecDepth 100000 in
set_option maxHeartbeats 1000000 in
theorem begin_true (b d : Nat) (n : Int) (x : ByteArray) (w : World) (e1 : (x.toList == [116, 114, 117, 101]) = true) (e2 : (x.toList == [102, 97, 108, 115, 101]) = false) :
    Calls Tryz.prog 61 #[.agg #[.int .u8 7, .int .i64 b, .int .i64 d, .int .i64 n, .string x]] w (BgPost w (.mk 2 1 []) 0) := by
  have HN : Hid (∀ W, Calls Tryz.prog 92 #[.bool true] W fun e w' => e = .returned (.agg #[.int .u8 2, .int .i64 1, .slice none 0 0]) ∧ Below W.heap.size W w') := fun W => bool_any true W
  go_enter Tryz.func61, Tryz.ntmps61
  go_wp2_with fail
  refine (HN.out _).mono ?_
  rintro e w1 ⟨rfl, hb1⟩
  obtain ⟨⟨⟨z0, z1, z2⟩, g0, g1, g2⟩, HB⟩ := begin_held hb1
  clear hb1 HN
  go_wp2_with fail
  refine bodyPost_ret (v := .tuple #[.agg #[.int .u8 2, .int .i64 1, .slice none 0 0], .int .i64 0]) (by simp [results, Tryz.results61, go_sem, z0, z1, z2]) rfl ⟨rfl, ?_⟩
  exact HB.out _ _ _

set_option maxRecDepth 100000 in
set_option maxHeartbeats 1000000 in
theorem begin_false (b d : Nat) (n : Int) (x : ByteArray) (w : World) (e1 : (x.toList == [116, 114, 117, 101]) = false) (e2 : (x.toList == [102, 97, 108, 115, 101]) = true) :
    Calls Tryz.prog 61 #[.agg #[.int .u8 7, .int .i64 b, .int .i64 d, .int .i64 n, .string x]] w (BgPost w (.mk 2 0 []) 0) := by
  have HN : Hid (∀ W, Calls Tryz.prog 92 #[.bool false] W fun e w' => e = .returned (.agg #[.int .u8 2, .int .i64 0, .slice none 0 0]) ∧ Below W.heap.size W w') := fun W => bool_any false W
  go_enter Tryz.func61, Tryz.ntmps61
  go_wp2_with fail
  refine (HN.out _).mono ?_
  rintro e w1 ⟨rfl, hb1⟩
  obtain ⟨⟨⟨z0, z1, z2⟩, g0, g1, g2⟩, HB⟩ := begin_held hb1
  clear hb1 HN
  go_wp2_with fail
  refine bodyPost_ret (v := .tuple #[.agg #[.int .u8 2, .int .i64 0, .slice none 0 0], .int .i64 0]) (by simp [results, Tryz.results61, go_sem, z0, z1, z2]) rfl ⟨rfl, ?_⟩
  exact HB.out _ _ _

set_option maxRecDepth 100000 in
set_option maxHeartbeats 1000000 in
theorem begin_word (b d : Nat) (n : Int) (x : ByteArray) (w : World) (e1 : (x.toList == [116, 114, 117, 101]) = false) (e2 : (x.toList == [102, 97, 108, 115, 101]) = false) :
    Calls Tryz.prog 61 #[.agg #[.int .u8 7, .int .i64 b, .int .i64 d, .int .i64 n, .string x]] w (BgPost w (.mk 0 0 []) 3) := by
  have HB := Lib.hid (begin_new (w := w) #[.int .u8 7, .int .i64 b, .int .i64 d, .int .i64 n, .string x] #[.int .u8 0, .int .i64 0, .slice none 0 0])
  go_enter Tryz.func61, Tryz.ntmps61
  go_wp2_with fail
  refine bodyPost_ret (v := .tuple #[.agg #[.int .u8 0, .int .i64 0, .slice none 0 0], .int .i64 3]) (by simp [results, Tryz.results61, go_sem]) rfl ⟨rfl, ?_⟩
  exact HB.out

/-- begin: the value that a mark begins, and what is wrong of it. -/
theorem begin_any (k b d : Nat) (n : Int) (l : List UInt8) (w : World) :
    Calls Tryz.prog 61 #[.agg #[.int .u8 k, .int .i64 b, .int .i64 d, .int .i64 n, .string (bs l)]] w (BgPost w (beginV (k, b, d, n, l)).1 (beginV (k, b, d, n, l)).2) := by
  have hl : (bs l).toList = l := by rw [Lib.toList_data]; exact bs_list l
  unfold beginV
  by_cases k10 : k = 10
  · subst k10; exact begin_stop b d n l w
  rw [if_neg k10]
  by_cases k8 : k = 8
  · subst k8; exact begin_num b d n l w
  rw [if_neg k8]
  by_cases k7 : k = 7
  · subst k7
    by_cases ht : l = trueW
    · subst ht
      exact begin_true b d n _ w (by rw [hl]; decide) (by rw [hl]; decide)
    by_cases hf : l = falseW
    · subst hf
      exact begin_false b d n _ w (by rw [hl]; decide) (by rw [hl]; decide)
    rw [if_neg (by simp [ht, hf]), if_neg (by simp), if_neg (by simp)]
    exact begin_word b d n _ w (by rw [hl]; exact beq_eq_false_iff_ne.2 ht) (by rw [hl]; exact beq_eq_false_iff_ne.2 hf)
  rw [if_neg (fun h => k7 h.1)]
  by_cases k5 : k = 5
  · subst k5; exact begin_less b d n l w
  rw [if_neg k5]
  by_cases k3 : k = 3
  · subst k3; exact begin_first b d n l w
  rw [if_neg k3]
  exact begin_else b d n l w k ⟨k10, k8, k7, k5, k3⟩
end

/-! The walks of the reader's small functions: fail, shuts. -/
section
open Go.RowKit

set_option maxRecDepth 100000 in
set_option maxHeartbeats 1000000 in
theorem fail_any (k : Nat) (b d : Nat) (n : Int) (l : List UInt8) (er : Int) (s : ByteArray) (a m p e : Int) (rb : Nat) (w : World) (hk : RdB w rb s a m p e) :
    Calls Tryz.prog 62 #[.pointer (some ⟨rb, 0, none⟩), .agg #[.int .u8 k, .int .i64 b, .int .i64 d, .int .i64 n, .string (bs l)], .int .i64 er] w fun en w' => en = .returned (.tuple #[.agg #[.int .u8 0, .int .i64 0, .slice none 0 0], .bool false]) ∧ RdB w' rb s a m b er ∧ w.grownBy w' (some rb) := by
  have hk2 := (hk.alloc (.cells #[.int .u8 k, .int .i64 b, .int .i64 d, .int .i64 n, .string (bs l)] 54)).alloc (.cells #[.int .u8 0, .int .i64 0, .slice none 0 0] 24)
  have c3 := hk2.cell 3; have f3 := hk2.frozen 3
  have hk3 := hk2.set_ 3 (.int .i64 b)
  have c4 := hk3.cell 4; have f4 := hk3.frozen 4
  have HB := Lib.hid (hk3.set_ 4 (.int .i64 er)); have HL := Lib.hid hk.lt
  clear hk hk2 hk3
  simp at c3 c4
  go_enter Tryz.func62, Tryz.ntmps62
  go_wp2_with fail
  refine bodyPost_ret (v := .tuple #[.agg #[.int .u8 0, .int .i64 0, .slice none 0 0], .bool false]) (by simp [results, Tryz.results62, go_sem]) rfl ⟨rfl, ?_, ?_⟩
  · have h := HB.out
    have hl := HL.out
    have e : ∀ i, rb ≠ (⟨w.heap.size + 1, i, none⟩ : Addr).block := fun i => by show rb ≠ w.heap.size + 1; omega
    exact ((h.far (e 0) _).far (e 1) _).far (e 2) _
  · have hl := HL.out
    have g0 := only_alloc (only_alloc (only_refl w (some rb)) (.cells #[.int .u8 k, .int .i64 b, .int .i64 d, .int .i64 n, .string (bs l)] 54)) (.cells #[.int .u8 0, .int .i64 0, .slice none 0 0] 24)
    have e : ∀ i, (⟨w.heap.size + 1, i, none⟩ : Addr).block = rb ∨ w.heap.size ≤ (⟨w.heap.size + 1, i, none⟩ : Addr).block := fun i => .inr (by show w.heap.size ≤ w.heap.size + 1; omega)
    exact only_setCell (only_setCell (only_setCell (only_setCell (only_setCell g0 (p := ⟨rb, 3, none⟩) (.inl rfl) _) (p := ⟨rb, 4, none⟩) (.inl rfl) _) (e 0) _) (e 1) _) (e 2) _

set_option maxRecDepth 100000 in
set_option maxHeartbeats 1000000 in
theorem shuts_any (k : Nat) (b d : Nat) (n : Int) (l : List UInt8) (w : World) :
    Calls Tryz.prog 93 #[.agg #[.int .u8 k, .int .i64 b, .int .i64 d, .int .i64 n, .string (bs l)]] w fun en w' => en = .returned (.bool (decide (shutsK k))) ∧ Below w.heap.size w w' := by
  have HB := Lib.hid ((Below.refl w.heap.size w).alloc (Nat.le_refl _) (.cells #[.int .u8 k, .int .i64 b, .int .i64 d, .int .i64 n, .string (bs l)] 54))
  by_cases h2 : k = 2
  · subst h2
    go_enter Tryz.func93, Tryz.ntmps93
    go_wp2_with fail
    go_ret
    exact ⟨rfl, HB.out⟩
  by_cases h4 : k = 4
  · subst h4
    go_enter Tryz.func93, Tryz.ntmps93
    go_wp2_with fail
    go_ret
    exact ⟨rfl, HB.out⟩
  by_cases h6 : k = 6
  · subst h6
    go_enter Tryz.func93, Tryz.ntmps93
    go_wp2_with fail
    go_ret
    exact ⟨rfl, HB.out⟩
  have e2 : ((k : Int) == 2) = false := beq_eq_false_iff_ne.2 (by omega)
  have e4 : ((k : Int) == 4) = false := beq_eq_false_iff_ne.2 (by omega)
  have e6 : ((k : Int) == 6) = false := beq_eq_false_iff_ne.2 (by omega)
  have HE : Hid (decide (shutsK k) = false) := decide_eq_false (by unfold shutsK; omega)
  clear h2 h4 h6
  go_enter Tryz.func93, Tryz.ntmps93
  go_wp2_with fail
  go_ret
  exact ⟨ret_bool HE.out.symm, HB.out⟩
end

/-! The reader's value: contracts' forms, and what is wrong ahead of a value. -/
section
open Go.RowKit

/-- A value is read. -/
def VOk (s : ByteArray) (rb : Nat) (p e : Int) (v : V) (a m : Nat) (w : World) (en : Ending) (w' : World) : Prop :=
  ∃ A c, en = .returned (.tuple #[vAgg v A c, .bool true]) ∧ RdB w' rb s a m p e ∧ w.grownBy w' (some rb) ∧ Vsp w' (Fr w.heap.size w') A v.l
/-- None is read. -/
def VBad (s : ByteArray) (rb : Nat) (p e : Int) (w : World) (en : Ending) (w' : World) : Prop :=
  ∃ (uk : Nat) (un : Int) (a m : Int), en = .returned (.tuple #[.agg #[.int .u8 uk, .int .i64 un, .slice none 0 0], .bool false]) ∧ RdB w' rb s a m p e ∧ w.grownBy w' (some rb)

theorem begin_nil (x : MarkT) : ∃ k n, (beginV x).1 = .mk k n [] := by
  unfold beginV
  by_cases h1 : x.1 = 10
  · rw [if_pos h1]; exact ⟨_, _, rfl⟩
  rw [if_neg h1]
  by_cases h2 : x.1 = 8
  · rw [if_pos h2]; exact ⟨_, _, rfl⟩
  rw [if_neg h2]
  by_cases h3 : x.1 = 7 ∧ (x.2.2.2.2 = trueW ∨ x.2.2.2.2 = falseW)
  · rw [if_pos h3]; exact ⟨_, _, rfl⟩
  rw [if_neg h3]
  by_cases h4 : x.1 = 5
  · rw [if_pos h4]; exact ⟨_, _, rfl⟩
  rw [if_neg h4]
  by_cases h5 : x.1 = 3
  · rw [if_pos h5]; exact ⟨_, _, rfl⟩
  rw [if_neg h5]; exact ⟨_, _, rfl⟩
theorem begin_lit (kk b d : Nat) (n : Int) (l : List UInt8) (bk : Nat) (bn : Int) (be : Nat) (hb : beginV (kk, b, d, n, l) = (.mk bk bn [], be)) (w : World) :
    Calls Tryz.prog 61 #[.agg #[.int .u8 kk, .int .i64 b, .int .i64 d, .int .i64 n, .string (bs l)]] w fun en w' => en = .returned (.tuple #[.agg #[.int .u8 bk, .int .i64 bn, .slice none 0 0], .int .i64 be]) ∧ Below w.heap.size w w' := by
  have h := begin_any kk b d n l w
  rw [hb] at h
  exact h
theorem rnext_ok (s : ByteArray) (a : Nat) (m p e : Int) (rb : Nat) (w : World) (hs : s.size ≤ 1048576) (ha : a ≤ s.size) (hv : Env w) (hk : RdB w rb s a m p e) (kk b d : Nat) (n : Int) (l : List UInt8) (pl : Nat) (hx : nx s.data.toList a = ((kk, b, d, n, l), pl, 0)) :
    Calls Tryz.prog 60 #[.pointer (some ⟨rb, 0, none⟩)] w fun en w' => en = .returned (.tuple #[.agg #[.int .u8 kk, .int .i64 b, .int .i64 d, .int .i64 n, .string (bs l)], .bool true]) ∧ RdB w' rb s a m p e ∧ w.grownBy w' (some rb) :=
  rnext_any s a m p e rb w hs ha hv hk kk b d n l pl 0 hx
theorem rnext_bad (s : ByteArray) (a : Nat) (m p e : Int) (rb : Nat) (w : World) (hs : s.size ≤ 1048576) (ha : a ≤ s.size) (hv : Env w) (hk : RdB w rb s a m p e) (kk b d : Nat) (n : Int) (l : List UInt8) (pl er : Nat) (her : er ≠ 0) (hx : nx s.data.toList a = ((kk, b, d, n, l), pl, er)) :
    Calls Tryz.prog 60 #[.pointer (some ⟨rb, 0, none⟩)] w fun en w' => en = .returned (.tuple #[.agg #[.int .u8 kk, .int .i64 b, .int .i64 d, .int .i64 n, .string (bs l)], .bool false]) ∧ RdB w' rb s a m pl er ∧ w.grownBy w' (some rb) := by
  have h := rnext_any s a m p e rb w hs ha hv hk kk b d n l pl er hx
  have e1 : ((er : Int) == 0) = false := beq_eq_false_iff_ne.2 (by omega)
  rw [if_neg her, if_neg her, e1] at h
  exact h

/-- The level's block and the result's, ahead of all. -/
abbrev lvW (w : World) (rb deep : Nat) : World := (w.alloc (.cells #[.pointer (some ⟨rb, 0, none⟩), .int .i64 deep] 83)).alloc (.cells #[.int .u8 0, .int .i64 0, .slice none 0 0] 24)
theorem lv_all {w : World} {rb deep : Nat} {s : ByteArray} {a m p e : Int} (hk : RdB w rb s a m p e) :
    Blk (lvW w rb deep) w.heap.size 83 #[.pointer (some ⟨rb, 0, none⟩), .int .i64 deep] ∧ Blk (lvW w rb deep) (w.heap.size + 1) 24 #[.int .u8 0, .int .i64 0, .slice none 0 0] ∧ RdB (lvW w rb deep) rb s a m p e ∧ w.grownBy (lvW w rb deep) (some rb) := by
  have h := Blk.new (w.alloc (.cells #[.pointer (some ⟨rb, 0, none⟩), .int .i64 deep] 83)) 24 #[.int .u8 0, .int .i64 0, .slice none 0 0]
  rw [World.size_alloc] at h
  exact ⟨(Blk.new _ _ _).alloc _, h, (hk.alloc _).alloc _, only_alloc (only_alloc (only_refl _ _) _) _⟩

set_option maxRecDepth 100000 in
set_option maxHeartbeats 4000000 in
theorem value_next (s : ByteArray) (a m deep item : Nat) (p e : Int) (rb : Nat) (w : World) (hs : s.size ≤ 1048576) (ha : a ≤ s.size) (hv : Env w) (hk : RdB w rb s a m p e) (kk b d : Nat) (n : Int) (l : List UInt8) (pl er : Nat) (her : er ≠ 0) (hx : nx s.data.toList a = ((kk, b, d, n, l), pl, er)) :
    Calls Tryz.prog 39 #[.agg #[.pointer (some ⟨rb, 0, none⟩), .int .i64 deep], .int .i64 item] w (VBad s rb pl er w) := by
  obtain ⟨kL, kR, kB, g0⟩ := lv_all (deep := deep) hk
  have hrl := hk.lt
  have HN := Lib.hid (rnext_bad s a m p e rb (lvW w rb deep) hs ha ((hv.alloc _).alloc _) kB kk b d n l pl er her hx)
  have HL := Lib.hid (And.intro kR (And.intro g0 hrl))
  have c0 := kL.cell 0
  simp at c0
  clear kL kR kB g0 hk hv hx hrl
  go_enter Tryz.func39, Tryz.ntmps39
  go_wp2_with fail
  refine HN.out.mono ?_
  rintro e' w1 ⟨rfl, hR1, hg1⟩
  have hrl := HL.out.2.2
  have kR1 := (HL.out.1.grown hg1 (fun q => by injection q with q; omega)).alloc (.cells #[.int .u8 kk, .int .i64 b, .int .i64 d, .int .i64 n, .string (bs l)] 54)
  obtain ⟨⟨z0, z1, z2⟩, f0, f1, f2⟩ := kR1.three
  have HR := Lib.hid (And.intro (hR1.alloc (.cells #[.int .u8 kk, .int .i64 b, .int .i64 d, .int .i64 n, .string (bs l)] 54)) (only_alloc (only_trans HL.out.2.1 hg1) (.cells #[.int .u8 kk, .int .i64 b, .int .i64 d, .int .i64 n, .string (bs l)] 54)))
  clear hR1 hg1 kR1 hrl HN c0
  go_wp2_with fail
  refine bodyPost_ret (v := .tuple #[.agg #[.int .u8 0, .int .i64 0, .slice none 0 0], .bool false]) (by simp [results, Tryz.results39, go_sem, z0, z1, z2]) rfl ⟨0, 0, a, m, rfl, ?_, ?_⟩
  · have hrl := HL.out.2.2
    have e : ∀ i, rb ≠ (⟨w.heap.size + 1, i, none⟩ : Addr).block := fun i => by show rb ≠ w.heap.size + 1; omega
    exact ((HR.out.1.far (e 0) _).far (e 1) _).far (e 2) _
  · have e : ∀ i, (⟨w.heap.size + 1, i, none⟩ : Addr).block = rb ∨ w.heap.size ≤ (⟨w.heap.size + 1, i, none⟩ : Addr).block := fun i => .inr (Nat.le_succ _)
    exact only_setCell (only_setCell (only_setCell HR.out.2 (e 0) _) (e 1) _) (e 2) _
end

/-! A value, and then its items: in plain Lean. No program in sight. -/
section
open Go

mutual
/-- A value and its items, each with its depth. -/
def V.all : V → Nat → List (Nat × V)
  | .mk k n l, d => (d, .mk k n l) :: V.alls l (d + 1)
def V.alls : List V → Nat → List (Nat × V)
  | [], _ => []
  | x :: r, d => x.all d ++ V.alls r d
end
def nE (p : Nat × V) : Nat := nodeE p.2.k p.2.n p.2.l.length
def firstE : List (Nat × V) → Nat
  | [] => 0
  | p :: r => if nE p ≠ 0 then nE p else firstE r
def maxD : List (Nat × V) → Nat
  | [] => 0
  | p :: r => max p.1 (maxD r)
theorem firstE_append (a b : List (Nat × V)) : firstE (a ++ b) = if firstE a ≠ 0 then firstE a else firstE b := by
  induction a with
  | nil => rfl
  | cons p r ih =>
    rw [List.cons_append, firstE, firstE]
    by_cases h : nE p ≠ 0
    · rw [if_pos h, if_pos h, if_pos h]
    · rw [if_neg h, if_neg h, ih]
theorem maxD_append (a b : List (Nat × V)) : maxD (a ++ b) = max (maxD a) (maxD b) := by
  induction a with
  | nil => rw [List.nil_append, maxD]; omega
  | cons p r ih => rw [List.cons_append, maxD, maxD, ih]; omega
theorem maxD_snoc (a : List (Nat × V)) (p : Nat × V) : maxD (a ++ [p]) = max (maxD a) p.1 := by rw [maxD_append, maxD, maxD]; omega
theorem all_first : ∀ (v : V) (d : Nat), firstE (v.all d) = v.first := by
  intro v
  induction v using V.ind with
  | h k n l ih =>
    intro d
    have key : ∀ (l : List V), (∀ x ∈ l, ∀ d, firstE (x.all d) = x.first) → ∀ d, firstE (V.alls l d) = V.firsts l := by
      intro l
      induction l with
      | nil => intro _ d; rw [V.alls, V.firsts]; rfl
      | cons x r ihr =>
        intro hx d
        rw [V.alls, V.firsts, firstE_append, hx x List.mem_cons_self d, ihr (fun y hy => hx y (List.mem_cons_of_mem _ hy)) d]
    rw [V.all, V.first, firstE, key l (fun x hx => ih x hx)]
    rfl
theorem all_length : ∀ (v : V) (d : Nat), (v.all d).length = v.size := by
  intro v
  induction v using V.ind with
  | h k n l ih =>
    intro d
    have key : ∀ (l : List V), (∀ x ∈ l, ∀ d, (x.all d).length = x.size) → ∀ d, (V.alls l d).length = V.sizes l := by
      intro l
      induction l with
      | nil => intro _ d; rw [V.alls, V.sizes]; rfl
      | cons x r ihr =>
        intro hx d
        rw [V.alls, V.sizes, List.length_append, hx x List.mem_cons_self d, ihr (fun y hy => hx y (List.mem_cons_of_mem _ hy)) d]
    rw [V.all, V.size, List.length_cons, key l (fun x hx => ih x hx)]
    omega
theorem all_deep : ∀ (v : V) (d : Nat), maxD (v.all d) + 1 = d + v.deep := by
  intro v
  induction v using V.ind with
  | h k n l ih =>
    intro d
    have key : ∀ (l : List V), (∀ x ∈ l, ∀ d, maxD (x.all d) + 1 = d + x.deep) → ∀ d, (l = [] ∧ maxD (V.alls l d) = 0 ∧ V.deeps l = 0) ∨ (maxD (V.alls l d) + 1 = d + V.deeps l ∧ 0 < V.deeps l) := by
      intro l
      induction l with
      | nil => intro _ d; rw [V.alls, V.deeps]; exact .inl ⟨rfl, rfl, rfl⟩
      | cons x r ihr =>
        intro hx d
        right
        have h1 := hx x List.mem_cons_self d
        have hp : 0 < x.deep := by cases x; rw [V.deep]; omega
        rw [V.alls, V.deeps, maxD_append]
        rcases ihr (fun y hy => hx y (List.mem_cons_of_mem _ hy)) d with ⟨_, h2, h3⟩ | ⟨h2, h3⟩
        · rw [h2, h3]; omega
        · omega
    rw [V.all, V.deep, maxD]
    rcases key l (fun x hx => ih x hx) (d + 1) with ⟨_, h2, h3⟩ | ⟨h2, h3⟩
    · rw [h2, h3]; show max d 0 + 1 = _; omega
    · show max d (maxD (V.alls l (d + 1))) + 1 = _; omega
theorem check_all (v : V) : v.check = if firstE (v.all 1) ≠ 0 then firstE (v.all 1) else if 128 < maxD (v.all 1) then 9 else if 4096 < (v.all 1).length then 5 else 0 := by
  have := all_deep v 1
  unfold V.check
  rw [all_first, all_length, show maxD (v.all 1) = v.deep by omega]
/-- Where a round has found something wrong, that is what is wrong. -/
theorem first_pre {xs pre : List (Nat × V)} {p : Nat × V} (h : pre ++ [p] <+: xs) (h0 : ∀ q ∈ pre, nE q = 0) (hp : nE p ≠ 0) : firstE xs = nE p := by
  obtain ⟨r, rfl⟩ := h
  have hz : firstE pre = 0 := by
    clear hp
    induction pre with
    | nil => rfl
    | cons q t ih => rw [firstE, if_neg (not_not_intro (h0 q List.mem_cons_self))]; exact ih fun y hy => h0 y (List.mem_cons_of_mem _ hy)
  have h1 : firstE (pre ++ [p]) = nE p := by rw [firstE_append, hz, if_neg (by simp), firstE, if_pos hp]
  rw [firstE_append, h1, if_pos hp]
theorem first_none {xs : List (Nat × V)} (h0 : ∀ q ∈ xs, nE q = 0) : firstE xs = 0 := by
  induction xs with
  | nil => rfl
  | cons q t ih => rw [firstE, if_neg (not_not_intro (h0 q List.mem_cons_self))]; exact ih fun y hy => h0 y (List.mem_cons_of_mem _ hy)
end
end Go.Proofs.YtbhekkkijomglaaGreatDoor
