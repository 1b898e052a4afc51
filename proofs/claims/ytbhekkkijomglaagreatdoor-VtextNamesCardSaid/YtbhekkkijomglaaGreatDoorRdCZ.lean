/- Put together: RdC, RdD. -/
import Derived.Test.YtbhekkkijomglaaGreatDoorRdA
import Derived.Test.YtbhekkkijomglaaGreatDoorRdB
namespace Go.Proofs.YtbhekkkijomglaaGreatDoor
/-! The walks of the reader's small functions: fail, shuts. -/
section
open Go.RowKit

set_option maxRecDepth 100000 in
set_option maxHeartbeats 1000000 in
theorem fail_any (k : Nat) (b d : Nat) (n : Int) (l : List UInt8) (er : Int) (s : ByteArray) (a m p e : Int) (rb : Nat) (w : World) (hk : RdB w rb s a m p e) :
    Calls Tryz.prog 62 #[.pointer (some ⟨rb, 0, none⟩), .agg #[.int .u8 k, .int .i64 b, .int .i64 d, .int .i64 n, .string (bs l)], .int .i64 er] w fun en w' => en = .returned (.tuple #[.agg #[.int .u8 0, .int .i64 0, .slice none 0 0], .bool false]) ∧ RdB w' rb s a m b er ∧ w.grownBy w' (some rb) := by
  have hk2 := (hk.alloc (.cells #[.int .u8 k, .int .i64 b, .int .i64 d, .int .i64 n, .string (bs l)] 54)).alloc (.cells #[.int .u8 0, .int .i64 0, .slice none 0 0] 24)
  have c3 := hk2.cell 3; have f3 := hk2.frozen 3
  have hk3 := hk2.set_ 3 (.int .i64 b)
  have c4 := hk3.cell 4; have f4 := hk3.frozen 4
  have HB := Lib.hid (hk3.set_ 4 (.int .i64 er)); have HL := Lib.hid hk.lt
  clear hk hk2 hk3
  simp at c3 c4
  go_enter Tryz.func62, Tryz.ntmps62
  go_wp2_with fail
  refine bodyPost_ret (v := .tuple #[.agg #[.int .u8 0, .int .i64 0, .slice none 0 0], .bool false]) (by simp [results, Tryz.results62, go_sem]) rfl ⟨rfl, ?_, ?_⟩
  · have h := HB.out
    have hl := HL.out
    have e : ∀ i, rb ≠ (⟨w.heap.size + 1, i, none⟩ : Addr).block := fun i => by show rb ≠ w.heap.size + 1; omega
    exact ((h.far (e 0) _).far (e 1) _).far (e 2) _
  · have hl := HL.out
    have g0 := only_alloc (only_alloc (only_refl w (some rb)) (.cells #[.int .u8 k, .int .i64 b, .int .i64 d, .int .i64 n, .string (bs l)] 54)) (.cells #[.int .u8 0, .int .i64 0, .slice none 0 0] 24)
    have e : ∀ i, (⟨w.heap.size + 1, i, none⟩ : Addr).block = rb ∨ w.heap.size ≤ (⟨w.heap.size + 1, i, none⟩ : Addr).block := fun i => .inr (by show w.heap.size ≤ w.heap.size + 1; omega)
    exact only_setCell (only_setCell (only_setCell (only_setCell (only_setCell g0 (p := ⟨rb, 3, none⟩) (.inl rfl) _) (p := ⟨rb, 4, none⟩) (.inl rfl) _) (e 0) _) (e 1) _) (e 2) _

set_option maxRecDepth 100000 in
set_option maxHeartbeats 1000000 in
theorem shuts_any (k : Nat) (b d : Nat) (n : Int) (l : List UInt8) (w : World) :
    Calls Tryz.prog 93 #[.agg #[.int .u8 k, .int .i64 b, .int .i64 d, .int .i64 n, .string (bs l)]] w fun en w' => en = .returned (.bool (decide (shutsK k))) ∧ Below w.heap.size w w' := by
  have HB := Lib.hid ((Below.refl w.heap.size w).alloc (Nat.le_refl _) (.cells #[.int .u8 k, .int .i64 b, .int .i64 d, .int .i64 n, .string (bs l)] 54))
  by_cases h2 : k = 2
  · subst h2
    go_enter Tryz.func93, Tryz.ntmps93
    go_wp2_with fail
    go_ret
    exact ⟨rfl, HB.out⟩
  by_cases h4 : k = 4
  · subst h4
    go_enter Tryz.func93, Tryz.ntmps93
    go_wp2_with fail
    go_ret
    exact ⟨rfl, HB.out⟩
  by_cases h6 : k = 6
  · subst h6
    go_enter Tryz.func93, Tryz.ntmps93
    go_wp2_with fail
    go_ret
    exact ⟨rfl, HB.out⟩
  have e2 : ((k : Int) == 2) = false := beq_eq_false_iff_ne.2 (by omega)
  have e4 : ((k : Int) == 4) = false := beq_eq_false_iff_ne.2 (by omega)
  have e6 : ((k : Int) == 6) = false := beq_eq_false_iff_ne.2 (by omega)
  have HE : Hid (decide (shutsK k) = false) := decide_eq_false (by unfold shutsK; omega)
  clear h2 h4 h6
  go_enter Tryz.func93, Tryz.ntmps93
  go_wp2_with fail
  go_ret
  exact ⟨ret_bool HE.out.symm, HB.out⟩
end

/-! The reader's value: contracts' forms, and what is wrong ahead of a value. -/
section
open Go.RowKit

/-- A value is read. -/
def VOk (s : ByteArray) (rb : Nat) (p e : Int) (v : V) (a m : Nat) (w : World) (en : Ending) (w' : World) : Prop :=
  ∃ A c, en = .returned (.tuple #[vAgg v A c, .bool true]) ∧ RdB w' rb s a m p e ∧ w.grownBy w' (some rb) ∧ Vsp w' (Fr w.heap.size w') A v.l
/-- None is read. -/
def VBad (s : ByteArray) (rb : Nat) (p e : Int) (w : World) (en : Ending) (w' : World) : Prop :=
  ∃ (uk : Nat) (un : Int) (a m : Int), en = .returned (.tuple #[.agg #[.int .u8 uk, .int .i64 un, .slice none 0 0], .bool false]) ∧ RdB w' rb s a m p e ∧ w.grownBy w' (some rb)

theorem begin_nil (x : MarkT) : ∃ k n, (beginV x).1 = .mk k n [] := by
  unfold beginV
  by_cases h1 : x.1 = 10
  · rw [if_pos h1]; exact ⟨_, _, rfl⟩
  rw [if_neg h1]
  by_cases h2 : x.1 = 8
  · rw [if_pos h2]; exact ⟨_, _, rfl⟩
  rw [if_neg h2]
  by_cases h3 : x.1 = 7 ∧ (x.2.2.2.2 = trueW ∨ x.2.2.2.2 = falseW)
  · rw [if_pos h3]; exact ⟨_, _, rfl⟩
  rw [if_neg h3]
  by_cases h4 : x.1 = 5
  · rw [if_pos h4]; exact ⟨_, _, rfl⟩
  rw [if_neg h4]
  by_cases h5 : x.1 = 3
  · rw [if_pos h5]; exact ⟨_, _, rfl⟩
  rw [if_neg h5]; exact ⟨_, _, rfl⟩
theorem begin_lit (kk b d : Nat) (n : Int) (l : List UInt8) (bk : Nat) (bn : Int) (be : Nat) (hb : beginV (kk, b, d, n, l) = (.mk bk bn [], be)) (w : World) :
    Calls Tryz.prog 61 #[.agg #[.int .u8 kk, .int .i64 b, .int .i64 d, .int .i64 n, .string (bs l)]] w fun en w' => en = .returned (.tuple #[.agg #[.int .u8 bk, .int .i64 bn, .slice none 0 0], .int .i64 be]) ∧ Below w.heap.size w w' := by
  have h := begin_any kk b d n l w
  rw [hb] at h
  exact h
theorem rnext_ok (s : ByteArray) (a : Nat) (m p e : Int) (rb : Nat) (w : World) (hs : s.size ≤ 1048576) (ha : a ≤ s.size) (hv : Env w) (hk : RdB w rb s a m p e) (kk b d : Nat) (n : Int) (l : List UInt8) (pl : Nat) (hx : nx s.data.toList a = ((kk, b, d, n, l), pl, 0)) :
    Calls Tryz.prog 60 #[.pointer (some ⟨rb, 0, none⟩)] w fun en w' => en = .returned (.tuple #[.agg #[.int .u8 kk, .int .i64 b, .int .i64 d, .int .i64 n, .string (bs l)], .bool true]) ∧ RdB w' rb s a m p e ∧ w.grownBy w' (some rb) :=
  rnext_any s a m p e rb w hs ha hv hk kk b d n l pl 0 hx
theorem rnext_bad (s : ByteArray) (a : Nat) (m p e : Int) (rb : Nat) (w : World) (hs : s.size ≤ 1048576) (ha : a ≤ s.size) (hv : Env w) (hk : RdB w rb s a m p e) (kk b d : Nat) (n : Int) (l : List UInt8) (pl er : Nat) (her : er ≠ 0) (hx : nx s.data.toList a = ((kk, b, d, n, l), pl, er)) :
    Calls Tryz.prog 60 #[.pointer (some ⟨rb, 0, none⟩)] w fun en w' => en = .returned (.tuple #[.agg #[.int .u8 kk, .int .i64 b, .int .i64 d, .int .i64 n, .string (bs l)], .bool false]) ∧ RdB w' rb s a m pl er ∧ w.grownBy w' (some rb) := by
  have h := rnext_any s a m p e rb w hs ha hv hk kk b d n l pl er hx
  have e1 : ((er : Int) == 0) = false := beq_eq_false_iff_ne.2 (by omega)
  rw [if_neg her, if_neg her, e1] at h
  exact h

/-- The level's block and the result's, ahead of all. -/
abbrev lvW (w : World) (rb deep : Nat) : World := (w.alloc (.cells #[.pointer (some ⟨rb, 0, none⟩), .int .i64 deep] 83)).alloc (.cells #[.int .u8 0, .int .i64 0, .slice none 0 0] 24)
theorem lv_all {w : World} {rb deep : Nat} {s : ByteArray} {a m p e : Int} (hk : RdB w rb s a m p e) :
    Blk (lvW w rb deep) w.heap.size 83 #[.pointer (some ⟨rb, 0, none⟩), .int .i64 deep] ∧ Blk (lvW w rb deep) (w.heap.size + 1) 24 #[.int .u8 0, .int .i64 0, .slice none 0 0] ∧ RdB (lvW w rb deep) rb s a m p e ∧ w.grownBy (lvW w rb deep) (some rb) := by
  have h := Blk.new (w.alloc (.cells #[.pointer (some ⟨rb, 0, none⟩), .int .i64 deep] 83)) 24 #[.int .u8 0, .int .i64 0, .slice none 0 0]
  rw [World.size_alloc] at h
  exact ⟨(Blk.new _ _ _).alloc _, h, (hk.alloc _).alloc _, only_alloc (only_alloc (only_refl _ _) _) _⟩

set_option maxRecDepth 100000 in
set_option maxHeartbeats 4000000 in
theorem value_next (s : ByteArray) (a m deep item : Nat) (p e : Int) (rb : Nat) (w : World) (hs : s.size ≤ 1048576) (ha : a ≤ s.size) (hv : Env w) (hk : RdB w rb s a m p e) (kk b d : Nat) (n : Int) (l : List UInt8) (pl er : Nat) (her : er ≠ 0) (hx : nx s.data.toList a = ((kk, b, d, n, l), pl, er)) :
    Calls Tryz.prog 39 #[.agg #[.pointer (some ⟨rb, 0, none⟩), .int .i64 deep], .int .i64 item] w (VBad s rb pl er w) := by
  obtain ⟨kL, kR, kB, g0⟩ := lv_all (deep := deep) hk
  have hrl := hk.lt
  have HN := Lib.hid (rnext_bad s a m p e rb (lvW w rb deep) hs ha ((hv.alloc _).alloc _) kB kk b d n l pl er her hx)
  have HL := Lib.hid (And.intro kR (And.intro g0 hrl))
  have c0 := kL.cell 0
  simp at c0
  clear kL kR kB g0 hk hv hx hrl
  go_enter Tryz.func39, Tryz.ntmps39
  go_wp2_with fail
  refine HN.out.mono ?_
  rintro e' w1 ⟨rfl, hR1, hg1⟩
  have hrl := HL.out.2.2
  have kR1 := (HL.out.1.grown hg1 (fun q => by injection q with q; omega)).alloc (.cells #[.int .u8 kk, .int .i64 b, .int .i64 d, .int .i64 n, .string (bs l)] 54)
  obtain ⟨⟨z0, z1, z2⟩, f0, f1, f2⟩ := kR1.three
  have HR := Lib.hid (And.intro (hR1.alloc (.cells #[.int .u8 kk, .int .i64 b, .int .i64 d, .int .i64 n, .string (bs l)] 54)) (only_alloc (only_trans HL.out.2.1 hg1) (.cells #[.int .u8 kk, .int .i64 b, .int .i64 d, .int .i64 n, .string (bs l)] 54)))
  clear hR1 hg1 kR1 hrl HN c0
  go_wp2_with fail
  refine bodyPost_ret (v := .tuple #[.agg #[.int .u8 0, .int .i64 0, .slice none 0 0], .bool false]) (by simp [results, Tryz.results39, go_sem, z0, z1, z2]) rfl ⟨0, 0, a, m, rfl, ?_, ?_⟩
  · have hrl := HL.out.2.2
    have e : ∀ i, rb ≠ (⟨w.heap.size + 1, i, none⟩ : Addr).block := fun i => by show rb ≠ w.heap.size + 1; omega
    exact ((HR.out.1.far (e 0) _).far (e 1) _).far (e 2) _
  · have e : ∀ i, (⟨w.heap.size + 1, i, none⟩ : Addr).block = rb ∨ w.heap.size ≤ (⟨w.heap.size + 1, i, none⟩ : Addr).block := fun i => .inr (Nat.le_succ _)
    exact only_setCell (only_setCell (only_setCell HR.out.2 (e 0) _) (e 1) _) (e 2) _
end
end Go.Proofs.YtbhekkkijomglaaGreatDoor
