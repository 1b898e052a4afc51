/- The walks of the reader's small functions: next, fail, shuts, begin. -/
import Derived.Test.YtbhekkkijomglaaGreatDoorVspMZ
import Derived.Test.YtbhekkkijomglaaGreatDoorVtU
import Derived.Test.YtbhekkkijomglaaGreatDoorLexW4Z
namespace Go.Proofs.YtbhekkkijomglaaGreatDoor
open Go.RowKit

def mkAgg (m : MarkT) : Value := .agg #[.int .u8 m.1, .int .i64 m.2.1, .int .i64 m.2.2.1, .int .i64 m.2.2.2.1, .string (bs m.2.2.2.2)]
/-- The reader's block. -/
abbrev RdB (w : World) (rb : Nat) (s : ByteArray) (a m p e : Int) : Prop := Blk w rb 80 #[.string s, .int .i64 a, .int .i64 m, .int .i64 p, .int .i64 e]

/-- A mark's zero, as an object. -/
abbrev mkZ : Obj := .cells #[.int .u8 0, .int .i64 0, .int .i64 0, .int .i64 0, .string ⟨#[]⟩] 54
theorem blk_mkZ (w : World) : Blk (w.alloc mkZ) w.heap.size 54 #[.int .u8 0, .int .i64 0, .int .i64 0, .int .i64 0, .string ⟨#[]⟩] := Blk.new _ _ _

/-- A mark's block, fresh: its cells, that may be written. -/
abbrev Five (w : World) (g : Nat) : Prop := (w.cell? ⟨g, 0, none⟩ = some (.int .u8 0) ∧ w.cell? ⟨g, 1, none⟩ = some (.int .i64 0) ∧ w.cell? ⟨g, 2, none⟩ = some (.int .i64 0) ∧ w.cell? ⟨g, 3, none⟩ = some (.int .i64 0) ∧ w.cell? ⟨g, 4, none⟩ = some (.string ⟨#[]⟩)) ∧ w.frozen? ⟨g, 0, none⟩ = false ∧ w.frozen? ⟨g, 1, none⟩ = false ∧ w.frozen? ⟨g, 2, none⟩ = false ∧ w.frozen? ⟨g, 3, none⟩ = false ∧ w.frozen? ⟨g, 4, none⟩ = false
theorem five_of {w : World} {g : Nat} (h : Blk w g 54 #[.int .u8 0, .int .i64 0, .int .i64 0, .int .i64 0, .string ⟨#[]⟩]) : Five w g := h.five
theorem nx_call (s : ByteArray) (a : Nat) (w : World) (hs : s.size ≤ 1048576) (ha : a ≤ s.size) (hv : Env w) (kk b d : Nat) (n : Int) (l : List UInt8) (pl er : Nat) (hx : nx s.data.toList a = ((kk, b, d, n, l), pl, er)) :
    Calls Tryz.prog 38 #[.string s, .int .i64 a] w fun e' w' => e' = .returned (.tuple #[.agg #[.int .u8 kk, .int .i64 b, .int .i64 d, .int .i64 n, .string (bs l)], .int .i64 pl, .int .i64 er]) ∧ Below w.heap.size w w' := by
  have hN := next_any s a w hs hv
  rw [lexNext_in _ _ (by simpa using ha)] at hN
  change Calls _ _ _ _ (fun e' w' => e' = .returned (nextVal (nx s.data.toList a)) ∧ _) at hN
  rw [hx] at hN
  exact hN

set_option maxRecDepth 100000 in
set_option maxHeartbeats 8000000 in
theorem rnext_any (s : ByteArray) (a : Nat) (m p e : Int) (rb : Nat) (w : World) (hs : s.size ≤ 1048576) (ha : a ≤ s.size) (hv : Env w) (hk : RdB w rb s a m p e) (kk b d : Nat) (n : Int) (l : List UInt8) (pl er : Nat) (hx : nx s.data.toList a = ((kk, b, d, n, l), pl, er)) :
    Calls Tryz.prog 60 #[.pointer (some ⟨rb, 0, none⟩)] w fun en w' => en = .returned (.tuple #[.agg #[.int .u8 kk, .int .i64 b, .int .i64 d, .int .i64 n, .string (bs l)], .bool ((er : Int) == 0)]) ∧ RdB w' rb s a m (if er = 0 then p else pl) (if er = 0 then e else er) ∧ w.grownBy w' (some rb) := by
  have hk1 := hk.alloc mkZ
  obtain ⟨⟨c0, c1, c2, c3, c4⟩, f0, f1, f2, f3, f4⟩ := hk1.five
  have EA : Env (w.alloc mkZ).drew := (hv.alloc mkZ).q ⟨1, rfl⟩
  have EB : Env ((w.alloc mkZ).alloc mkZ).drew := ((hv.alloc mkZ).alloc mkZ).q ⟨1, rfl⟩
  have hrl := hk.lt
  have hHA : Calls Tryz.prog 38 #[.string s, .int .i64 a] (w.alloc mkZ).drew fun e' w1 => e' = .returned (.tuple #[.agg #[.int .u8 kk, .int .i64 b, .int .i64 d, .int .i64 n, .string (bs l)], .int .i64 pl, .int .i64 er]) ∧ Hid (Blk w1 w.heap.size 54 #[.int .u8 0, .int .i64 0, .int .i64 0, .int .i64 0, .string ⟨#[]⟩] ∧ RdB w1 rb s a m p e ∧ Below w.heap.size w w1) := by
    refine (nx_call s a _ hs ha EA kk b d n l pl er hx).mono fun e' w1 ⟨h1, h2⟩ => ⟨h1, ?_⟩
    have e1 : ((w.alloc mkZ).drew).heap.size = w.heap.size + 1 := World.size_alloc _ _
    rw [e1] at h2
    exact ⟨(blk_mkZ w).drew.below h2 (by omega), hk1.drew.below h2 (by omega), (((Below.refl w.heap.size w).alloc (Nat.le_refl _) mkZ).drew).trans (h2.mono (by omega))⟩
  have hHB : Calls Tryz.prog 38 #[.string s, .int .i64 a] ((w.alloc mkZ).alloc mkZ).drew fun e' w1 => e' = .returned (.tuple #[.agg #[.int .u8 kk, .int .i64 b, .int .i64 d, .int .i64 n, .string (bs l)], .int .i64 pl, .int .i64 er]) ∧ Five w1 (w.heap.size + 1) ∧ Hid (Blk w1 (w.heap.size + 1) 54 #[.int .u8 0, .int .i64 0, .int .i64 0, .int .i64 0, .string ⟨#[]⟩] ∧ Blk w1 w.heap.size 54 #[.int .u8 0, .int .i64 0, .int .i64 0, .int .i64 0, .string ⟨#[]⟩] ∧ RdB w1 rb s a m p e ∧ Below w.heap.size w w1) := by
    refine (nx_call s a _ hs ha EB kk b d n l pl er hx).mono fun e' w1 ⟨h1, h2⟩ => ⟨h1, ?_⟩
    have e2 : (((w.alloc mkZ).alloc mkZ).drew).heap.size = w.heap.size + 2 := by show ((w.alloc mkZ).alloc mkZ).heap.size = _; simp
    rw [e2] at h2
    have hy := (blk_mkZ (w.alloc mkZ)).drew.below h2 (by simp)
    rw [World.size_alloc] at hy
    exact ⟨five_of hy, hy, ((blk_mkZ w).alloc mkZ).drew.below h2 (by omega), (hk1.alloc mkZ).drew.below h2 (by omega), ((((Below.refl w.heap.size w).alloc (Nat.le_refl _) mkZ).alloc (by simp) mkZ).drew).trans (h2.mono (by omega))⟩
  have HA := Lib.hid hHA; have HBB := Lib.hid hHB
  clear hHA hHB EA EB hk hk1 hv hx hs ha
  go_enter Tryz.func60, Tryz.ntmps60
  go_wp2_with fail
  rename_i K hKK
  have HK : Hid (∀ (pb : Nat) (W : World), pb ≠ rb → pb ≠ w.heap.size → Blk W pb 54 #[.int .u8 kk, .int .i64 b, .int .i64 d, .int .i64 n, .string (bs l)] → Blk W w.heap.size 54 #[.int .u8 0, .int .i64 0, .int .i64 0, .int .i64 0, .string ⟨#[]⟩] → RdB W rb s a m p e → Below w.heap.size w W →
      K { tmps := #[.pointer (some ⟨rb, 0, none⟩), undef, .pointer (some ⟨w.heap.size, 0, none⟩), .bool false, .pointer (some ⟨pb, 0, none⟩), .int .i64 pl, .int .i64 er,
        .tuple #[.agg #[.int .u8 kk, .int .i64 b, .int .i64 d, .int .i64 n, .string (bs l)], .int .i64 pl, .int .i64 er], .pointer (some ⟨rb, 0, none⟩), .pointer (some ⟨rb, 0, none⟩), .pointer (some ⟨rb, 0, none⟩), .string s, .pointer (some ⟨rb, 0, none⟩), .pointer (some ⟨rb, 0, none⟩), .pointer (some ⟨rb, 1, none⟩), .int .i64 a,
        .tuple #[.agg #[.int .u8 kk, .int .i64 b, .int .i64 d, .int .i64 n, .string (bs l)], .int .i64 pl, .int .i64 er], .agg #[.int .u8 kk, .int .i64 b, .int .i64 d, .int .i64 n, .string (bs l)], .int .i64 pl, .int .i64 er, undef, undef, undef, undef, undef, undef, undef, undef, undef, undef, undef], defers := [] } W) := by
    intro pb W n1 n2 bP bZ bR bW
    refine hKK _ _ ?_
    clear HA HBB hKK c0 c1 c2 c3 c4 f0 f1 f2 f3 f4
    by_cases her : er = 0
    · subst her
      obtain ⟨⟨y0, y1, y2, y3, y4⟩, _⟩ := bP.five
      obtain ⟨⟨z0, z1, z2, z3, z4⟩, g0, g1, g2, g3, g4⟩ := bZ.five
      have HR := Lib.hid (And.intro bR (only_of_below bW (some rb)))
      clear bP bZ bR bW
      go_wp2_with fail
      refine bodyPost_ret (v := .tuple #[.agg #[.int .u8 kk, .int .i64 b, .int .i64 d, .int .i64 n, .string (bs l)], .bool true]) (by simp [results, Tryz.results60, go_sem, z0, z1, z2, z3, z4]) rfl ⟨rfl, ?_, ?_⟩
      · have h := HR.out.1
        have e : ∀ i, rb ≠ (⟨w.heap.size, i, none⟩ : Addr).block := fun i => by show rb ≠ w.heap.size; omega
        exact ((((h.far (e 0) _).far (e 1) _).far (e 2) _).far (e 3) _).far (e 4) _
      · have h := HR.out.2
        have e : ∀ i, (⟨w.heap.size, i, none⟩ : Addr).block = rb ∨ w.heap.size ≤ (⟨w.heap.size, i, none⟩ : Addr).block := fun i => .inr (Nat.le_refl _)
        exact only_setCell (only_setCell (only_setCell (only_setCell (only_setCell h (e 0) _) (e 1) _) (e 2) _) (e 3) _) (e 4) _
    · have hne : ((er : Int) == 0) = false := beq_eq_false_iff_ne.2 (by omega)
      have hne' : ((er : Int) != 0) = true := bne_iff_ne.2 (by omega)
      have c3 := bR.cell 3; have f3 := bR.frozen 3
      have bR1 := bR.set_ 3 (.int .i64 pl)
      have c4 := bR1.cell 4; have f4 := bR1.frozen 4
      have bR2 := bR1.set_ 4 (.int .i64 er)
      simp at c3 c4
      obtain ⟨⟨y0, y1, y2, y3, y4⟩, _⟩ := ((bP.far (p := ⟨rb, 3, none⟩) n1 (.int .i64 pl)).far (p := ⟨rb, 4, none⟩) n1 (.int .i64 er)).five
      have n3 : w.heap.size ≠ rb := by omega
      obtain ⟨⟨z0, z1, z2, z3, z4⟩, g0, g1, g2, g3, g4⟩ := ((bZ.far (p := ⟨rb, 3, none⟩) n3 (.int .i64 pl)).far (p := ⟨rb, 4, none⟩) n3 (.int .i64 er)).five
      have HR := Lib.hid (And.intro bR2 (only_setCell (only_setCell (only_of_below bW (some rb)) (p := ⟨rb, 3, none⟩) (.inl rfl) (.int .i64 pl)) (p := ⟨rb, 4, none⟩) (.inl rfl) (.int .i64 er)))
      have HN := Lib.hid her
      clear bP bZ bR bW bR1 bR2 her n1 n2 n3
      go_wp2_with fail
      refine bodyPost_ret (v := .tuple #[.agg #[.int .u8 kk, .int .i64 b, .int .i64 d, .int .i64 n, .string (bs l)], .bool false]) (by simp [results, Tryz.results60, go_sem, z0, z1, z2, z3, z4]) rfl ⟨rfl, ?_, ?_⟩
      · have h := HR.out.1
        have e : ∀ i, rb ≠ (⟨w.heap.size, i, none⟩ : Addr).block := fun i => by show rb ≠ w.heap.size; omega
        exact ((((h.far (e 0) _).far (e 1) _).far (e 2) _).far (e 3) _).far (e 4) _
      · have h := HR.out.2
        have e : ∀ i, (⟨w.heap.size, i, none⟩ : Addr).block = rb ∨ w.heap.size ≤ (⟨w.heap.size, i, none⟩ : Addr).block := fun i => .inr (Nat.le_refl _)
        exact only_setCell (only_setCell (only_setCell (only_setCell (only_setCell h (e 0) _) (e 1) _) (e 2) _) (e 3) _) (e 4) _
  clear hKK
  go_region_with (go_at_call 38; first
    | (refine HA.out.mono ?_
       rintro e' w1 ⟨rfl, HX⟩
       clear c0 c1 c2 c3 c4 f0 f1 f2 f3 f4)
    | (refine HBB.out.mono ?_
       rintro e' w1 ⟨rfl, ⟨⟨y0, y1, y2, y3, y4⟩, x0, x1, x2, x3, x4⟩, HX⟩
       clear c0 c1 c2 c3 c4 f0 f1 f2 f3 f4))
  all_goals first
    | (refine HK.out w1.heap.size _ ?_ ?_ ?_ ?_ ?_ ?_
       · have := HX.out.2.1.lt; omega
       · have := HX.out.1.lt; omega
       · exact Blk.new _ _ _
       · exact HX.out.1.alloc _
       · exact HX.out.2.1.alloc _
       · exact HX.out.2.2.alloc HX.out.2.2.size _)
    | (refine HK.out (w.heap.size + 1) _ ?_ ?_ ?_ ?_ ?_ ?_
       · omega
       · omega
       · exact HX.out.1.set5 _ _ _ _ _
       · have e : ∀ i, w.heap.size ≠ (⟨w.heap.size + 1, i, none⟩ : Addr).block := fun i => by show w.heap.size ≠ w.heap.size + 1; omega
         exact ((((HX.out.2.1.far (e 0) _).far (e 1) _).far (e 2) _).far (e 3) _).far (e 4) _
       · have e : ∀ i, rb ≠ (⟨w.heap.size + 1, i, none⟩ : Addr).block := fun i => by show rb ≠ w.heap.size + 1; omega
         exact ((((HX.out.2.2.1.far (e 0) _).far (e 1) _).far (e 2) _).far (e 3) _).far (e 4) _
       · exact below_set5 HX.out.2.2.2 (Nat.le_succ _) _ _ _ _ _)
    | skip
end Go.Proofs.YtbhekkkijomglaaGreatDoor
