/- The walk of Read. -/
import Derived.Test.YtbhekkkijomglaaGreatDoorRdK
namespace Go.Proofs.YtbhekkkijomglaaGreatDoor
open Go.RowKit

/-- What Read tells. -/
def RPost (x : PR V) (w : World) (en : Ending) (w' : World) : Prop :=
  match x with
  | .ok v _ _ => ∃ A c, en = .returned (.tuple #[vAgg v A c, .int .i64 0, .int .i64 0]) ∧ Below w.heap.size w w' ∧ Vsp w' (Fr w.heap.size w') A v.l
  | .bad p e => en = .returned (.tuple #[.agg #[.int .u8 0, .int .i64 0, .slice none 0 0], .int .i64 p, .int .i64 e]) ∧ Below w.heap.size w w'

/-- The result's block, behind what is below. -/
theorem res_held {w w2 : World} (hb : Below (w.alloc zV).heap.size (w.alloc zV) w2) : Blk w2 w.heap.size 24 #[.int .u8 0, .int .i64 0, .slice none 0 0] ∧ Below w.heap.size w w2 :=
  ⟨(Blk.new w 24 #[.int .u8 0, .int .i64 0, .slice none 0 0]).below hb (by simp), ((Below.refl w.heap.size w).alloc (Nat.le_refl _) zV).trans (hb.mono (by simp))⟩
theorem res_set {w w2 : World} {a b c : Value} (h : Blk w2 w.heap.size 24 #[a, b, c] ∧ Below w.heap.size w w2) (u v x : Value) :
    Blk (((w2.setCell ⟨w.heap.size, 0, none⟩ u).setCell ⟨w.heap.size, 1, none⟩ v).setCell ⟨w.heap.size, 2, none⟩ x) w.heap.size 24 #[u, v, x] ∧ Below w.heap.size w (((w2.setCell ⟨w.heap.size, 0, none⟩ u).setCell ⟨w.heap.size, 1, none⟩ v).setCell ⟨w.heap.size, 2, none⟩ x) := by
  refine ⟨?_, ((h.2.setCell (p := ⟨w.heap.size, 0, none⟩) (Nat.le_refl _) u).setCell (p := ⟨w.heap.size, 1, none⟩) (Nat.le_refl _) v).setCell (p := ⟨w.heap.size, 2, none⟩) (Nat.le_refl _) x⟩
  have h2 := ((h.1.set_ 0 u).set_ 1 v).set_ 2 x
  simpa using h2
theorem res_below {w w2 w3 : World} {a b c : Value} (h : Blk w2 w.heap.size 24 #[a, b, c] ∧ Below w.heap.size w w2) (hb : Below w2.heap.size w2 w3) : Blk w3 w.heap.size 24 #[a, b, c] ∧ Below w.heap.size w w3 :=
  ⟨h.1.below hb h.1.lt, h.2.trans (hb.mono h.2.size)⟩

set_option maxRecDepth 100000 in
set_option maxHeartbeats 4000000 in
theorem read_long (s : ByteArray) (w : World) (h : 65536 < s.size) : Calls Tryz.prog 17 #[.string s] w (RPost (.bad 0 5) w) := by
  have HB := Lib.hid ((Below.refl w.heap.size w).alloc (Nat.le_refl _) zV)
  have h1 : (65536 : Int) < (s.size : Int) := by omega
  clear h
  go_enter Tryz.func17, Tryz.ntmps17
  go_wp2_with fail
  refine bodyPost_ret (v := .tuple #[.agg #[.int .u8 0, .int .i64 0, .slice none 0 0], .int .i64 0, .int .i64 5]) (by simp [results, Tryz.results17, go_sem]) rfl ⟨rfl, ?_⟩
  exact HB.out

set_option maxRecDepth 100000 in
set_option maxHeartbeats 4000000 in
theorem read_part (s : ByteArray) (w : World) (hs : s.size ≤ 65536) (p e : Nat) (he : e ≠ 0)
    (hC : Calls Tryz.prog 18 #[.string s, .int .i64 0] (w.alloc zV) (PPost (.bad p e) (w.alloc zV))) :
    Calls Tryz.prog 17 #[.string s] w (RPost (.bad p e) w) := by
  have HC := Lib.hid hC
  have h1 : ¬ (65536 : Int) < (s.size : Int) := by omega
  have e1 : ((e : Int) != 0) = true := bne_iff_ne.2 (by omega)
  have e2 : ((e : Int) == 0) = false := beq_eq_false_iff_ne.2 (by omega)
  clear hC hs he
  go_enter Tryz.func17, Tryz.ntmps17
  go_wp2_with fail
  refine HC.out.mono ?_
  rintro e' w2 ⟨rfl, hb⟩
  have r1 := res_held hb
  have r2 := res_set r1 (.int .u8 0) (.int .i64 0) (.slice none 0 0)
  have r3 := res_set r2 (.int .u8 0) (.int .i64 0) (.slice none 0 0)
  obtain ⟨⟨z0, z1, z2⟩, f0, f1, f2⟩ := r1.1.three
  obtain ⟨⟨y0, y1, y2⟩, g0, g1, g2⟩ := r2.1.three
  have HX := Lib.hid r3.2
  clear r1 r2 r3 hb HC
  go_wp2_with fail
  refine bodyPost_ret (v := .tuple #[.agg #[.int .u8 0, .int .i64 0, .slice none 0 0], .int .i64 p, .int .i64 e]) (by simp [results, Tryz.results17, go_sem, y0, y1, y2]) rfl ⟨rfl, ?_⟩
  exact HX.out

set_option maxRecDepth 100000 in
set_option maxHeartbeats 4000000 in
theorem read_next (s : ByteArray) (w : World) (hs : s.size ≤ 65536) (v : V) (a m : Nat) (ha : a ≤ s.size) (hv : Env w) (kk b d : Nat) (n : Int) (l : List UInt8) (pl er : Nat) (her : er ≠ 0) (hx : nx s.data.toList a = ((kk, b, d, n, l), pl, er))
    (hC : Calls Tryz.prog 18 #[.string s, .int .i64 0] (w.alloc zV) (PPost (.ok v a m) (w.alloc zV))) :
    Calls Tryz.prog 17 #[.string s] w (RPost (.bad pl er) w) := by
  have HC := Lib.hid hC
  have HN := Lib.hid (fun W hW => nx_call s a W (by omega) ha hW kk b d n l pl er hx)
  have h1 : ¬ (65536 : Int) < (s.size : Int) := by omega
  have e1 : ((er : Int) != 0) = true := bne_iff_ne.2 (by omega)
  have e2 : ((er : Int) == 0) = false := beq_eq_false_iff_ne.2 (by omega)
  clear hC hs her hx
  go_enter Tryz.func17, Tryz.ntmps17
  go_wp2_with fail
  refine HC.out.mono ?_
  rintro e' w2 ⟨A, c, he, hb, hV⟩
  change e' = .returned (.tuple #[.agg #[.int .u8 v.k, .int .i64 v.n, .slice A v.l.length c], .int .i64 a, .int .i64 0, .int .i64 0]) at he
  subst he
  have r1 := res_held hb
  have r2 := res_set r1 (.int .u8 v.k) (.int .i64 v.n) (.slice A v.l.length c)
  obtain ⟨⟨z0, z1, z2⟩, f0, f1, f2⟩ := r1.1.three
  have HR := Lib.hid r2
  clear r1 r2 hb hV HC
  go_wp2_with fail
  refine (HN.out _ (hv.step HR.out.2)).mono ?_
  rintro e' w3 ⟨rfl, hb3⟩
  have r3 := res_below (res_below HR.out hb3) ((Below.refl _ _).alloc (Nat.le_refl _) (.cells #[.int .u8 kk, .int .i64 b, .int .i64 d, .int .i64 n, .string (bs l)] 54))
  have r4 := res_set r3 (.int .u8 0) (.int .i64 0) (.slice none 0 0)
  clear z0 z1 z2 f0 f1 f2
  obtain ⟨⟨y0, y1, y2⟩, g0, g1, g2⟩ := r3.1.three
  have HX := Lib.hid r4.2
  clear r3 r4 hb3 HN HR
  go_wp2_with fail
  refine bodyPost_ret (v := .tuple #[.agg #[.int .u8 0, .int .i64 0, .slice none 0 0], .int .i64 pl, .int .i64 er]) (by simp [results, Tryz.results17, go_sem, y0, y1, y2]) rfl ⟨rfl, ?_⟩
  exact HX.out

set_option maxRecDepth 100000 in
set_option maxHeartbeats 4000000 in
theorem read_okk (s : ByteArray) (w : World) (hs : s.size ≤ 65536) (v : V) (a m : Nat) (ha : a ≤ s.size) (hv : Env w) (b d : Nat) (n : Int) (l : List UInt8) (pl : Nat) (hx : nx s.data.toList a = ((10, b, d, n, l), pl, 0))
    (hC : Calls Tryz.prog 18 #[.string s, .int .i64 0] (w.alloc zV) (PPost (.ok v a m) (w.alloc zV))) :
    Calls Tryz.prog 17 #[.string s] w (RPost (.ok v 0 m) w) := by
  have HC := Lib.hid hC
  have HN := Lib.hid (fun W hW => nx_call s a W (by omega) ha hW 10 b d n l pl 0 hx)
  have h1 : ¬ (65536 : Int) < (s.size : Int) := by omega
  clear hC hs hx
  go_enter Tryz.func17, Tryz.ntmps17
  go_wp2_with fail
  refine HC.out.mono ?_
  rintro e' w2 ⟨A, c, he, hb, hV⟩
  change e' = .returned (.tuple #[.agg #[.int .u8 v.k, .int .i64 v.n, .slice A v.l.length c], .int .i64 a, .int .i64 0, .int .i64 0]) at he
  subst he
  have r1 := res_held hb
  have r2 := res_set r1 (.int .u8 v.k) (.int .i64 v.n) (.slice A v.l.length c)
  obtain ⟨⟨z0, z1, z2⟩, f0, f1, f2⟩ := r1.1.three
  have hV2 := fresh_three (R := w.heap.size) (B' := w.heap.size + 1) (show Vsp w2 (Fr (w.heap.size + 1) w2) A v.l from by rw [World.size_alloc] at hV; exact hV) (by omega) (Nat.le_refl _) (.int .u8 v.k) (.int .i64 v.n) (.slice A v.l.length c)
  have HR := Lib.hid (And.intro r2 hV2)
  clear r1 r2 hb hV hV2 HC
  go_wp2_with fail
  refine (HN.out _ (hv.step HR.out.1.2)).mono ?_
  rintro e' w3 ⟨he, hb3⟩
  change e' = .returned (.tuple #[.agg #[.int .u8 10, .int .i64 b, .int .i64 d, .int .i64 n, .string (bs l)], .int .i64 pl, .int .i64 0]) at he
  subst he
  have hb4 := (Below.refl w3.heap.size w3).alloc (Nat.le_refl _) (.cells #[.int .u8 10, .int .i64 b, .int .i64 d, .int .i64 n, .string (bs l)] 54)
  have r3 := res_below (res_below HR.out.1 hb3) hb4
  have hV3 := (HR.out.2.fresh_keep (only_of_below hb3 none) (Nat.le_refl _) (fun g q => by cases q)).fresh_keep (only_of_below hb4 none) (Nat.le_refl _) (fun g q => by cases q)
  have r4 := res_set r3 (.int .u8 v.k) (.int .i64 v.n) (.slice A v.l.length c)
  have hV4 := fresh_three (R := w.heap.size) (B' := w.heap.size) hV3 (by omega) (by omega) (.int .u8 v.k) (.int .i64 v.n) (.slice A v.l.length c)
  clear z0 z1 z2 f0 f1 f2
  obtain ⟨⟨y0, y1, y2⟩, g0, g1, g2⟩ := r3.1.three
  have HX := Lib.hid (And.intro r4.2 hV4)
  clear r3 r4 hb3 hb4 hV3 hV4 HN HR
  go_wp2_with fail
  refine bodyPost_ret (v := .tuple #[.agg #[.int .u8 v.k, .int .i64 v.n, .slice A v.l.length c], .int .i64 0, .int .i64 0]) (by simp [results, Tryz.results17, go_sem, y0, y1, y2]) rfl ⟨A, c, rfl, ?_, ?_⟩
  · exact HX.out.1
  · exact HX.out.2
end Go.Proofs.YtbhekkkijomglaaGreatDoor
