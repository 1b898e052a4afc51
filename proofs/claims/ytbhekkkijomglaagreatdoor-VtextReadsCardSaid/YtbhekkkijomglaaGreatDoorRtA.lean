/- The walks of the reference's Fail and Mark (a text that is read). -/
import Derived.Test.YtbhekkkijomglaaGreatDoorRefZ
import Derived.Test.YtbhekkkijomglaaGreatDoorVtP
namespace Go.Proofs.YtbhekkkijomglaaGreatDoor
open Go.RowKit

/-- The text's state. -/
abbrev TxB (w : World) (g : Nat) (s : ByteArray) (a m p e : Int) : Prop := Blk w g 72 #[.string s, .int .i64 a, .int .i64 m, .int .i64 p, .int .i64 e]

set_option maxRecDepth 100000 in
set_option maxHeartbeats 1000000 in
theorem tfail_first (s : ByteArray) (a m p : Int) (q er : Int) (g : Nat) (w : World) (hk : TxB w g s a m p 0) :
    Calls Tryz.prog 56 #[.pointer (some ⟨g, 0, none⟩), .int .i64 q, .int .i64 er] w fun en w' => en = .returned (.tuple #[]) ∧ TxB w' g s a m q er ∧ w.grownBy w' (some g) := by
  obtain ⟨⟨c0, c1, c2, c3, c4⟩, f0, f1, f2, f3, f4⟩ := hk.five
  have HB := Lib.hid ((hk.set_ 3 (.int .i64 q)).set_ 4 (.int .i64 er))
  clear hk
  go_enter Tryz.func56, Tryz.ntmps56
  go_wp2_with fail
  go_end0
  exact ⟨rfl, HB.out, only_setCell (only_setCell (only_refl w (some g)) (p := ⟨g, 3, none⟩) (.inl rfl) _) (p := ⟨g, 4, none⟩) (.inl rfl) _⟩

set_option maxRecDepth 100000 in
set_option maxHeartbeats 1000000 in
theorem tfail_more (s : ByteArray) (a m p : Int) (q er e : Int) (g : Nat) (w : World) (he : e ≠ 0) (hk : TxB w g s a m p e) :
    Calls Tryz.prog 56 #[.pointer (some ⟨g, 0, none⟩), .int .i64 q, .int .i64 er] w fun en w' => en = .returned (.tuple #[]) ∧ TxB w' g s a m p e ∧ w.grownBy w' (some g) := by
  obtain ⟨⟨c0, c1, c2, c3, c4⟩, f0, f1, f2, f3, f4⟩ := hk.five
  have HB := Lib.hid hk
  have e1 : (e == 0) = false := beq_eq_false_iff_ne.2 he
  clear hk
  go_enter Tryz.func56, Tryz.ntmps56
  go_wp2_with fail
  go_end0
  exact ⟨rfl, HB.out, only_refl _ _⟩
theorem nx_ref (s : ByteArray) (a : Nat) (w : World) (hs : s.size ≤ 20000) (ha : a ≤ s.size) (kk b d : Nat) (n : Int) (l : List UInt8) (pl er : Nat) (hx : nx s.data.toList a = ((kk, b, d, n, l), pl, er)) :
    Calls Tryz.prog 36 #[.string s, .int .i64 a] w fun e w' => e = .returned (.tuple #[.agg #[.int .u8 kk, .int .i64 b, .int .i64 d, .int .i64 n, .string (bs l)], .int .i64 pl, .int .i64 er]) ∧ Below w.heap.size w w' := by
  have h := refnext_any s a w hs
  rw [lexNext_in _ _ (by simpa using ha)] at h
  have hx' : fromRest a (s.data.toList.drop a) = ((kk, b, d, n, l), pl, er) := hx
  rw [hx'] at h
  exact h

abbrev mzR : Obj := .cells #[.int .u8 0, .int .i64 0, .int .i64 0, .int .i64 0, .string ⟨#[]⟩] 67
theorem blk_mzR (w : World) : Blk (w.alloc mzR) w.heap.size 67 #[.int .u8 0, .int .i64 0, .int .i64 0, .int .i64 0, .string ⟨#[]⟩] := Blk.new _ _ _
def FiveR (w : World) (g : Nat) : Prop := (w.cell? ⟨g, 0, none⟩ = some (.int .u8 0) ∧ w.cell? ⟨g, 1, none⟩ = some (.int .i64 0) ∧ w.cell? ⟨g, 2, none⟩ = some (.int .i64 0) ∧ w.cell? ⟨g, 3, none⟩ = some (.int .i64 0) ∧ w.cell? ⟨g, 4, none⟩ = some (.string ⟨#[]⟩)) ∧ (w.frozen? ⟨g, 0, none⟩ = false ∧ w.frozen? ⟨g, 1, none⟩ = false ∧ w.frozen? ⟨g, 2, none⟩ = false ∧ w.frozen? ⟨g, 3, none⟩ = false ∧ w.frozen? ⟨g, 4, none⟩ = false)
theorem fiveR_of {w : World} {g : Nat} (h : Blk w g 67 #[.int .u8 0, .int .i64 0, .int .i64 0, .int .i64 0, .string ⟨#[]⟩]) : FiveR w g := h.five
/-- What Mark hands back, where nothing was wrong before. -/
def MkP (kk b d : Nat) (n : Int) (l : List UInt8) (s : ByteArray) (g : Nat) (a m p e : Int) (w : World) (en : Ending) (w' : World) : Prop :=
  en = .returned (.agg #[.int .u8 kk, .int .i64 b, .int .i64 d, .int .i64 n, .string (bs l)]) ∧ TxB w' g s a m p e ∧ w.grownBy w' (some g)

set_option maxRecDepth 100000 in
set_option maxHeartbeats 4000000 in
theorem tmark_gen (more : Bool) (s : ByteArray) (a : Nat) (m p : Int) (g : Nat) (w : World) (hs : s.size ≤ 20000) (ha : a ≤ s.size) (hk : TxB w g s a m p 0) (kk b d : Nat) (n : Int) (l : List UInt8) (pl er : Nat) (hx : nx s.data.toList a = ((kk, b, d, n, l), pl, er)) (a9 p9 e9 : Int) (h9 : (er = 0 ∧ a9 = (if more = true then d else a : Nat) ∧ p9 = p ∧ e9 = 0) ∨ (er ≠ 0 ∧ a9 = a ∧ p9 = pl ∧ e9 = er)) :
    Calls Tryz.prog 55 #[.pointer (some ⟨g, 0, none⟩), .bool more] w (MkP kk b d n l s g a9 m p9 e9 w) := by
  have H9 := Lib.hid h9
  clear h9
  have hk1 := hk.alloc mzR
  obtain ⟨⟨c0, c1, c2, c3, c4⟩, f0, f1, f2, f3, f4⟩ := hk1.five
  have hrl := hk.lt
  have hHA : Calls Tryz.prog 36 #[.string s, .int .i64 a] (w.alloc mzR).drew fun e' w1 => e' = .returned (.tuple #[.agg #[.int .u8 kk, .int .i64 b, .int .i64 d, .int .i64 n, .string (bs l)], .int .i64 pl, .int .i64 er]) ∧ Hid (Blk w1 w.heap.size 67 #[.int .u8 0, .int .i64 0, .int .i64 0, .int .i64 0, .string ⟨#[]⟩] ∧ TxB w1 g s a m p 0 ∧ Below w.heap.size w w1) := by
    refine (nx_ref s a _ hs ha kk b d n l pl er hx).mono fun e' w1 ⟨h1, h2⟩ => ⟨h1, ?_⟩
    have e1 : ((w.alloc mzR).drew).heap.size = w.heap.size + 1 := World.size_alloc _ _
    rw [e1] at h2
    exact ⟨(blk_mzR w).drew.below h2 (by omega), hk1.drew.below h2 (by omega), (((Below.refl w.heap.size w).alloc (Nat.le_refl _) mzR).drew).trans (h2.mono (by omega))⟩
  have hHB : Calls Tryz.prog 36 #[.string s, .int .i64 a] ((w.alloc mzR).alloc mzR).drew fun e' w1 => e' = .returned (.tuple #[.agg #[.int .u8 kk, .int .i64 b, .int .i64 d, .int .i64 n, .string (bs l)], .int .i64 pl, .int .i64 er]) ∧ FiveR w1 (w.heap.size + 1) ∧ Hid (Blk w1 (w.heap.size + 1) 67 #[.int .u8 0, .int .i64 0, .int .i64 0, .int .i64 0, .string ⟨#[]⟩] ∧ Blk w1 w.heap.size 67 #[.int .u8 0, .int .i64 0, .int .i64 0, .int .i64 0, .string ⟨#[]⟩] ∧ TxB w1 g s a m p 0 ∧ Below w.heap.size w w1) := by
    refine (nx_ref s a _ hs ha kk b d n l pl er hx).mono fun e' w1 ⟨h1, h2⟩ => ⟨h1, ?_⟩
    have e2 : (((w.alloc mzR).alloc mzR).drew).heap.size = w.heap.size + 2 := by show ((w.alloc mzR).alloc mzR).heap.size = _; simp
    rw [e2] at h2
    have hy := (blk_mzR (w.alloc mzR)).drew.below h2 (by simp)
    rw [World.size_alloc] at hy
    exact ⟨fiveR_of hy, hy, ((blk_mzR w).alloc mzR).drew.below h2 (by omega), (hk1.alloc mzR).drew.below h2 (by omega), ((((Below.refl w.heap.size w).alloc (Nat.le_refl _) mzR).alloc (by simp) mzR).drew).trans (h2.mono (by omega))⟩
  have HA := Lib.hid hHA; have HBB := Lib.hid hHB
  clear hHA hHB hk hk1 hx hs ha
  go_enter Tryz.func55, Tryz.ntmps55
  go_wp2_with fail
  rename_i K hKK
  have HK : Hid (∀ (pb : Nat) (W : World), pb ≠ g → pb ≠ w.heap.size → Blk W pb 67 #[.int .u8 kk, .int .i64 b, .int .i64 d, .int .i64 n, .string (bs l)] → Blk W w.heap.size 67 #[.int .u8 0, .int .i64 0, .int .i64 0, .int .i64 0, .string ⟨#[]⟩] → TxB W g s a m p 0 → Below w.heap.size w W →
      K { tmps := #[.pointer (some ⟨g, 0, none⟩), .bool more, undef, undef, .pointer (some ⟨w.heap.size, 0, none⟩), .pointer (some ⟨pb, 0, none⟩), .int .i64 pl, .int .i64 er, .pointer (some ⟨g, 0, none⟩), .pointer (some ⟨g, 0, none⟩), .pointer (some ⟨g, 4, none⟩), .int .i64 0, .bool false, undef, .tuple #[.agg #[.int .u8 kk, .int .i64 b, .int .i64 d, .int .i64 n, .string (bs l)], .int .i64 pl, .int .i64 er], .pointer (some ⟨g, 0, none⟩), .pointer (some ⟨g, 0, none⟩), .pointer (some ⟨g, 0, none⟩), .string s, .pointer (some ⟨g, 0, none⟩), .pointer (some ⟨g, 0, none⟩), .pointer (some ⟨g, 1, none⟩), .int .i64 a, .tuple #[.agg #[.int .u8 kk, .int .i64 b, .int .i64 d, .int .i64 n, .string (bs l)], .int .i64 pl, .int .i64 er], .agg #[.int .u8 kk, .int .i64 b, .int .i64 d, .int .i64 n, .string (bs l)], .int .i64 pl, .int .i64 er, undef, undef, undef, undef, undef, undef, undef, undef, undef, undef, undef, undef, undef, undef], defers := [] } W) := by
    intro pb W n1 n2 bP bZ bR bW
    refine hKK _ _ ?_
    clear HA HBB hKK c0 c1 c2 c3 c4 f0 f1 f2 f3 f4
    have n3 : w.heap.size ≠ g := by omega
    rcases H9.out with ⟨her, ha9, hp9, he9⟩ | ⟨her, ha9, hp9, he9⟩
    · subst her hp9 he9
      cases more with
      | false =>
        rw [if_neg (by decide)] at ha9
        subst ha9
        obtain ⟨⟨y0, y1, y2, y3, y4⟩, _⟩ := bP.five
        obtain ⟨⟨z0, z1, z2, z3, z4⟩, g0, g1, g2, g3, g4⟩ := bZ.five
        have HR := Lib.hid (And.intro bR (only_of_below bW (some g)))
        clear bP bZ bR bW
        go_wp2_with fail
        refine bodyPost_ret (v := .agg #[.int .u8 kk, .int .i64 b, .int .i64 d, .int .i64 n, .string (bs l)]) (by simp [results, Tryz.results55, go_sem, z0, z1, z2, z3, z4]) rfl ⟨rfl, ?_, ?_⟩
        · have h := HR.out.1
          have e : ∀ i, g ≠ (⟨w.heap.size, i, none⟩ : Addr).block := fun i => by show g ≠ w.heap.size; omega
          exact ((((h.far (e 0) _).far (e 1) _).far (e 2) _).far (e 3) _).far (e 4) _
        · have h := HR.out.2
          have e : ∀ i, (⟨w.heap.size, i, none⟩ : Addr).block = g ∨ w.heap.size ≤ (⟨w.heap.size, i, none⟩ : Addr).block := fun i => .inr (Nat.le_refl _)
          exact only_setCell (only_setCell (only_setCell (only_setCell (only_setCell h (e 0) _) (e 1) _) (e 2) _) (e 3) _) (e 4) _
      | true =>
        rw [if_pos rfl] at ha9
        subst ha9
        have c1 := bR.cell 1; have f1 := bR.frozen 1
        simp at c1
        obtain ⟨⟨y0, y1, y2, y3, y4⟩, _⟩ := bP.five
        obtain ⟨⟨x0, x1, x2, x3, x4⟩, _⟩ := (bP.far (p := ⟨g, 1, none⟩) n1 (.int .i64 d)).five
        obtain ⟨⟨z0, z1, z2, z3, z4⟩, g0, g1, g2, g3, g4⟩ := (bZ.far (p := ⟨g, 1, none⟩) n3 (.int .i64 d)).five
        have HR := Lib.hid (And.intro (bR.set_ 1 (.int .i64 d)) (only_setCell (only_of_below bW (some g)) (p := ⟨g, 1, none⟩) (.inl rfl) (.int .i64 d)))
        clear bP bZ bR bW
        go_wp2_with fail
        refine bodyPost_ret (v := .agg #[.int .u8 kk, .int .i64 b, .int .i64 d, .int .i64 n, .string (bs l)]) (by simp [results, Tryz.results55, go_sem, z0, z1, z2, z3, z4]) rfl ⟨rfl, ?_, ?_⟩
        · have h := HR.out.1
          have e : ∀ i, g ≠ (⟨w.heap.size, i, none⟩ : Addr).block := fun i => by show g ≠ w.heap.size; omega
          exact ((((h.far (e 0) _).far (e 1) _).far (e 2) _).far (e 3) _).far (e 4) _
        · have h := HR.out.2
          have e : ∀ i, (⟨w.heap.size, i, none⟩ : Addr).block = g ∨ w.heap.size ≤ (⟨w.heap.size, i, none⟩ : Addr).block := fun i => .inr (Nat.le_refl _)
          exact only_setCell (only_setCell (only_setCell (only_setCell (only_setCell h (e 0) _) (e 1) _) (e 2) _) (e 3) _) (e 4) _
    · subst ha9 hp9 he9
      have hne : ((er : Int) == 0) = false := beq_eq_false_iff_ne.2 (by omega)
      have hne' : ((er : Int) != 0) = true := bne_iff_ne.2 (by omega)
      have HN := Lib.hid her
      have HX := Lib.hid (And.intro bP (And.intro bZ bW))
      have HF := Lib.hid (tfail_first s a m p pl er g W bR)
      clear bP bZ bR bW her
      go_wp2_with fail
      refine HF.out.mono ?_
      rintro e' w2 ⟨rfl, bR, hg2⟩
      obtain ⟨bP, bZ, bW⟩ := HX.out
      obtain ⟨⟨y0, y1, y2, y3, y4⟩, _⟩ := (bP.grown hg2 (fun q => by injection q with q; omega)).five
      obtain ⟨⟨z0, z1, z2, z3, z4⟩, g0, g1, g2, g3, g4⟩ := (bZ.grown hg2 (fun q => by injection q with q; omega)).five
      have HR := Lib.hid (And.intro bR (only_trans (only_of_below bW (some g)) hg2))
      clear bP bZ bR bW hg2 HX HF
      go_wp2_with fail
      refine bodyPost_ret (v := .agg #[.int .u8 kk, .int .i64 b, .int .i64 d, .int .i64 n, .string (bs l)]) (by simp [results, Tryz.results55, go_sem, z0, z1, z2, z3, z4]) rfl ⟨rfl, ?_, ?_⟩
      · have h := HR.out.1
        have e : ∀ i, g ≠ (⟨w.heap.size, i, none⟩ : Addr).block := fun i => by show g ≠ w.heap.size; omega
        exact ((((h.far (e 0) _).far (e 1) _).far (e 2) _).far (e 3) _).far (e 4) _
      · have h := HR.out.2
        have e : ∀ i, (⟨w.heap.size, i, none⟩ : Addr).block = g ∨ w.heap.size ≤ (⟨w.heap.size, i, none⟩ : Addr).block := fun i => .inr (Nat.le_refl _)
        exact only_setCell (only_setCell (only_setCell (only_setCell (only_setCell h (e 0) _) (e 1) _) (e 2) _) (e 3) _) (e 4) _
  clear hKK
  go_region_with (go_at_call 36; first
    | (refine HA.out.mono ?_
       rintro e' w1 ⟨rfl, HX⟩
       clear c0 c1 c2 c3 c4 f0 f1 f2 f3 f4)
    | (refine HBB.out.mono ?_
       rintro e' w1 ⟨rfl, ⟨⟨y0, y1, y2, y3, y4⟩, x0, x1, x2, x3, x4⟩, HX⟩
       clear c0 c1 c2 c3 c4 f0 f1 f2 f3 f4))
  all_goals first
    | (refine HK.out w1.heap.size _ ?_ ?_ ?_ ?_ ?_ ?_
       · have := HX.out.2.1.lt; omega
       · have := HX.out.1.lt; omega
       · exact Blk.new _ _ _
       · exact HX.out.1.alloc _
       · exact HX.out.2.1.alloc _
       · exact HX.out.2.2.alloc HX.out.2.2.size _)
    | (refine HK.out (w.heap.size + 1) _ ?_ ?_ ?_ ?_ ?_ ?_
       · omega
       · omega
       · exact HX.out.1.set5 _ _ _ _ _
       · have e : ∀ i, w.heap.size ≠ (⟨w.heap.size + 1, i, none⟩ : Addr).block := fun i => by show w.heap.size ≠ w.heap.size + 1; omega
         exact ((((HX.out.2.1.far (e 0) _).far (e 1) _).far (e 2) _).far (e 3) _).far (e 4) _
       · have e : ∀ i, g ≠ (⟨w.heap.size + 1, i, none⟩ : Addr).block := fun i => by show g ≠ w.heap.size + 1; omega
         exact ((((HX.out.2.2.1.far (e 0) _).far (e 1) _).far (e 2) _).far (e 3) _).far (e 4) _
       · exact below_set5 HX.out.2.2.2 (Nat.le_succ _) _ _ _ _ _)
    | skip

theorem tmark_more (s : ByteArray) (a : Nat) (m p : Int) (g : Nat) (w : World) (hs : s.size ≤ 20000) (ha : a ≤ s.size) (hk : TxB w g s a m p 0) (kk b d : Nat) (n : Int) (l : List UInt8) (pl : Nat) (hx : nx s.data.toList a = ((kk, b, d, n, l), pl, 0)) :
    Calls Tryz.prog 55 #[.pointer (some ⟨g, 0, none⟩), .bool true] w (MkP kk b d n l s g d m p 0 w) :=
  tmark_gen true s a m p g w hs ha hk kk b d n l pl 0 hx d p 0 (.inl ⟨rfl, rfl, rfl, rfl⟩)
theorem tmark_stay (s : ByteArray) (a : Nat) (m p : Int) (g : Nat) (w : World) (hs : s.size ≤ 20000) (ha : a ≤ s.size) (hk : TxB w g s a m p 0) (kk b d : Nat) (n : Int) (l : List UInt8) (pl : Nat) (hx : nx s.data.toList a = ((kk, b, d, n, l), pl, 0)) :
    Calls Tryz.prog 55 #[.pointer (some ⟨g, 0, none⟩), .bool false] w (MkP kk b d n l s g a m p 0 w) :=
  tmark_gen false s a m p g w hs ha hk kk b d n l pl 0 hx a p 0 (.inl ⟨rfl, rfl, rfl, rfl⟩)
theorem tmark_bad (more : Bool) (s : ByteArray) (a : Nat) (m p : Int) (g : Nat) (w : World) (hs : s.size ≤ 20000) (ha : a ≤ s.size) (hk : TxB w g s a m p 0) (kk b d : Nat) (n : Int) (l : List UInt8) (pl er : Nat) (her : er ≠ 0) (hx : nx s.data.toList a = ((kk, b, d, n, l), pl, er)) :
    Calls Tryz.prog 55 #[.pointer (some ⟨g, 0, none⟩), .bool more] w (MkP kk b d n l s g a m pl er w) :=
  tmark_gen more s a m p g w hs ha hk kk b d n l pl er hx a pl er (.inr ⟨her, rfl, rfl, rfl⟩)
/-- Something was wrong, or is. -/
theorem tfail_any (s : ByteArray) (a m p : Int) (q er : Int) (e : Int) (g : Nat) (w : World) (hk : TxB w g s a m p e) :
    Calls Tryz.prog 56 #[.pointer (some ⟨g, 0, none⟩), .int .i64 q, .int .i64 er] w fun en w' => en = .returned (.tuple #[]) ∧ TxB w' g s a m (if e = 0 then q else p) (if e = 0 then er else e) ∧ w.grownBy w' (some g) := by
  by_cases he : e = 0
  · subst he
    rw [if_pos rfl, if_pos rfl]
    exact tfail_first s a m p q er g w hk
  · rw [if_neg he, if_neg he]
    exact tfail_more s a m p q er e g w he hk
end Go.Proofs.YtbhekkkijomglaaGreatDoor
