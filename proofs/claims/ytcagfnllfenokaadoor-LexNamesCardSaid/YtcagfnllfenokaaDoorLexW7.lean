/- awake: the examples are as they are told. -/
import Derived.Test.YtcagfnllfenokaaDoorLexW6
namespace Go.Proofs.YtcagfnllfenokaaDoor
open Go.RowKit

def aw1 : List UInt8 := [40, 102, 114, 101, 113, 32, 49, 32, 45, 50, 41]
theorem aw1_all : lexAll aw1 = ([(1, 0, 1, 0, []), (7, 1, 5, 0, [102, 114, 101, 113]), (8, 6, 7, 1, []), (8, 8, 10, -2, []), (2, 10, 11, 0, [])], 0, 0) := by kernel_rfl
def awL : List MarkZ := [(1, 0, 1, 0, []), (7, 1, 5, 0, [102, 114, 101, 113]), (8, 6, 7, 1, []), (8, 8, 10, -2, []), (2, 10, 11, 0, [])]
theorem awL_ok : ∀ m ∈ awL, MarkOk m := by
  intro m hm
  simp [awL] at hm
  rcases hm with rfl | rfl | rfl | rfl | rfl <;> exact ⟨by decide, by decide, by decide⟩
theorem aw1_join : lexJoin awL = ([40, 32, 102, 114, 101, 113, 32, 49, 32, 45, 50, 32, 41], 0) := by decide +kernel
theorem aw2 : lexNext [32, 32, 97, 98] 0 = ((7, 2, 4, 0, [97, 98]), 0, 0) := by decide +kernel
theorem aw3 : lexAll [97, 98, 32, 35, 48, 49, 50] = ([], 3, 3) := by kernel_rfl
theorem aw4 : lexNext [] 0 = ((10, 0, 0, 0, []), 0, 0) := by decide +kernel
theorem aw5 : lexNext [] 1 = ((0, 0, 0, 0, []), 0, 1) := by decide +kernel
theorem aw6 : lexAll [57, 50, 50, 51, 51, 55, 50, 48, 51, 54, 56, 53, 52, 55, 55, 53, 56, 48, 56] = ([], 0, 5) := by kernel_rfl
theorem aw7 : lexAll [35] = ([(9, 0, 1, 0, [])], 0, 0) := by kernel_rfl

/-- What All tells of a text that is written out. -/
theorem all_lit (l : List UInt8) (x : List MarkT × Nat × Nat) (hl : l.length ≤ 65536) (h : lexAll l = x) (w : World) (hv : Env w) :
    Calls Tryd.prog 5 #[.string ⟨l.toArray⟩] w fun e w' => ∃ v, e = .returned (.tuple #[v, .int .i64 x.2.1, .int .i64 x.2.2]) ∧ w'.ownsRow w.heap.size 30 5 v x.1.length (cellsOf x.1) ∧ Below w.heap.size w w' := by
  have := all_any (bs l) w (by rw [bs_size]; exact hl) hv
  rw [bs_list, h] at this
  exact this
theorem next_lit (l : List UInt8) (i : Int) (x : NextR) (hl : l.length ≤ 65536) (h : lexNext l i = x) (w : World) (hv : Env w) :
    Calls Tryd.prog 6 #[.string ⟨l.toArray⟩, .int .i64 i] w fun e w' => e = .returned (.tuple #[.agg #[.int .u8 x.1.1, .int .i64 x.1.2.1, .int .i64 x.1.2.2.1, .int .i64 x.1.2.2.2.1, .string ⟨x.1.2.2.2.2.toArray⟩], .int .i64 x.2.1, .int .i64 x.2.2]) ∧ Below w.heap.size w w' := by
  have := next_any (bs l) i w (by rw [bs_size]; omega) hv
  rw [bs_list, h] at this
  exact this

set_option maxRecDepth 100000 in
set_option maxHeartbeats 1600000 in
theorem awake_any (w : World) (hv : Env w) :
    Calls Tryd.prog 4 #[] w fun e w' => e = .returned (.bool true) ∧ Below w.heap.size w w' := by
  go_enter Tryd.func4, Tryd.ntmps4
  go_wp2_with fail
  refine (all_lit aw1 _ (by decide) aw1_all _ hv).mono ?_
  rintro e w1 ⟨v1, rfl, hown, hb⟩
  have hlen1 : cellsOf [(1, 0, 1, 0, []), (7, 1, 5, 0, [102, 114, 101, 113]), (8, 6, 7, 1, []), (8, 8, 10, -2, []), (2, 10, 11, 0, [])] = [.int .u8 1, .int .i64 0, .int .i64 1, .int .i64 0, .string ⟨#[]⟩, .int .u8 7, .int .i64 1, .int .i64 5, .int .i64 0, .string ⟨#[102, 114, 101, 113]⟩, .int .u8 8, .int .i64 6, .int .i64 7, .int .i64 1, .string ⟨#[]⟩, .int .u8 8, .int .i64 8, .int .i64 10, .int .i64 (-2), .string ⟨#[]⟩, .int .u8 2, .int .i64 10, .int .i64 11, .int .i64 0, .string ⟨#[]⟩] := rfl
  obtain ⟨g, cap, rfl, hg⟩ := hown.form (by decide)
  have hcells := hown.cells (g := g) rfl
  have hat : MarksAt w1 g 0 awL := ⟨fun _ => hg.2, fun j u hj => by
    have h1 := hcells j u (by rw [hlen1]; exact hj)
    by_cases h0 : j = 0
    · subst h0; simpa [Addr.add] using h1
    · simpa [Addr.add, h0] using h1⟩
  clear hlen1 hown hcells
  go_wp2_with fail
  refine (join_any awL g 0 cap _ (by decide) hat awL_ok (hv.step hb)).mono ?_
  rw [show showVal (lexJoin awL) = .tuple #[.string ⟨#[40, 32, 102, 114, 101, 113, 32, 49, 32, 45, 50, 32, 41]⟩, .int .i64 0] by rw [aw1_join]; rfl]
  rintro e w2 ⟨rfl, hb2⟩
  have h2 := hb.trans (hb2.mono hb.size)
  have hat2 := hat.below hb2 (Nat.le_refl _)
  clear hat hb hb2
  go_wp2_with fail
  refine (next_lit [32, 32, 97, 98] 0 _ (by decide) aw2 _ (hv.step h2)).mono ?_
  rintro e w3 ⟨rfl, hb3⟩
  have h3 := h2.trans (hb3.mono h2.size)
  have hat3 := hat2.below hb3 (Nat.le_refl _)
  clear hat2 h2 hb3
  go_wp2_with fail
  have hm3 := Blk.new w3 30 #[.int .u8 7, .int .i64 2, .int .i64 4, .int .i64 0, .string ⟨#[97, 98]⟩]
  have e3 := h3.alloc h3.size (.cells #[.int .u8 7, .int .i64 2, .int .i64 4, .int .i64 0, .string ⟨#[97, 98]⟩] 30)
  have i3 := (Below.refl w3.heap.size w3).alloc (Nat.le_refl _) (.cells #[.int .u8 7, .int .i64 2, .int .i64 4, .int .i64 0, .string ⟨#[97, 98]⟩] 30)
  refine (all_lit [97, 98, 32, 35, 48, 49, 50] _ (by decide) aw3 _ (hv.step e3)).mono ?_
  rintro e w4 ⟨v4, rfl, _, b4⟩
  have h4 := e3.trans (b4.mono e3.size)
  have hat4 := hat3.below (i3.trans (b4.mono i3.size)) (Nat.le_refl _)
  have hm4 := hm3.below b4 (by simp)
  clear h3 hat3 hm3 e3 i3 b4
  go_wp2_with fail
  refine (next_lit [] 0 _ (by decide) aw4 _ (hv.step h4)).mono ?_
  rintro e w5 ⟨rfl, b5⟩
  have h5 := h4.trans (b5.mono h4.size)
  have hat5 := hat4.below b5 (Nat.le_refl _)
  have hm5 := hm4.below b5 hm4.lt
  clear h4 hat4 hm4 b5
  generalize w3.heap.size = gm at *
  go_wp2_with fail
  have hn5 := Blk.new w5 30 #[.int .u8 10, .int .i64 0, .int .i64 0, .int .i64 0, .string ⟨#[]⟩]
  have e5 := h5.alloc h5.size (.cells #[.int .u8 10, .int .i64 0, .int .i64 0, .int .i64 0, .string ⟨#[]⟩] 30)
  have i5 := (Below.refl w5.heap.size w5).alloc (Nat.le_refl _) (.cells #[.int .u8 10, .int .i64 0, .int .i64 0, .int .i64 0, .string ⟨#[]⟩] 30)
  refine (next_lit [] 1 _ (by decide) aw5 _ (hv.step e5)).mono ?_
  rintro e w6 ⟨rfl, b6⟩
  have h6 := e5.trans (b6.mono e5.size)
  have hat6 := hat5.below (i5.trans (b6.mono i5.size)) (Nat.le_refl _)
  have hm6 := hm5.below (i5.trans (b6.mono i5.size)) hm5.lt
  have hn6 := hn5.below b6 (by simp)
  clear h5 hat5 hm5 hn5 e5 i5 b6
  generalize w5.heap.size = gn at *
  go_wp2_with fail
  have e6 := h6.alloc h6.size (.cells #[.int .u8 0, .int .i64 0, .int .i64 0, .int .i64 0, .string ⟨#[]⟩] 30)
  have i6 := (Below.refl w6.heap.size w6).alloc (Nat.le_refl _) (.cells #[.int .u8 0, .int .i64 0, .int .i64 0, .int .i64 0, .string ⟨#[]⟩] 30)
  refine (all_lit [57, 50, 50, 51, 51, 55, 50, 48, 51, 54, 56, 53, 52, 55, 55, 53, 56, 48, 56] _ (by decide) aw6 _ (hv.step e6)).mono ?_
  rintro e w7 ⟨v7, rfl, _, b7⟩
  have h7 := e6.trans (b7.mono e6.size)
  have hat7 := hat6.below (i6.trans (b7.mono i6.size)) (Nat.le_refl _)
  have hm7 := hm6.below (i6.trans (b7.mono i6.size)) hm6.lt
  have hn7 := hn6.below (i6.trans (b7.mono i6.size)) hn6.lt
  clear h6 hat6 hm6 hn6 b7 e6 i6
  go_wp2_with fail
  refine (all_lit [35] _ (by decide) aw7 _ (hv.step h7)).mono ?_
  rintro e w8 ⟨v8, rfl, hown8, b8⟩
  have h8 := h7.trans (b8.mono h7.size)
  have hat8 := hat7.below b8 (Nat.le_refl _)
  have hm8 := hm7.below b8 hm7.lt
  have hn8 := hn7.below b8 hn7.lt
  clear h7 hat7 hm7 hn7 b8
  obtain ⟨g8, cap8, rfl, hg8⟩ := hown8.form (by decide)
  have hcells8 := hown8.cells (g := g8) rfl
  have d0 : w8.cell? ⟨g8, 0, none⟩ = some (.int .u8 9) := by simpa [Addr.add] using hcells8 0 _ rfl
  have d4 : w8.cell? ⟨g8, 4, none⟩ = some (.string ⟨#[]⟩) := by simpa [Addr.add, bs] using hcells8 4 _ rfl
  obtain ⟨a0, _, _, _, _⟩ := hat8.five (k := 0) rfl
  obtain ⟨_, _, _, _, a1⟩ := hat8.five (k := 1) rfl
  obtain ⟨_, _, _, a2, _⟩ := hat8.five (k := 2) rfl
  obtain ⟨_, _, _, a3, _⟩ := hat8.five (k := 3) rfl
  obtain ⟨p0, p1, p2, p3, p4⟩ := hat8.five (k := 4) rfl
  obtain ⟨⟨q0, q1, q2, q3, q4⟩, _⟩ := hm8.five
  obtain ⟨⟨r0, r1, r2, r3, r4⟩, _⟩ := hn8.five
  have H8 := Lib.hid h8
  clear hat8 hm8 hn8 hown8 hcells8 h8 hg hg8
  simp only [Nat.zero_mul, Nat.zero_add, Nat.add_zero, Nat.reduceMul, Nat.reduceAdd, bs] at a0 a1 a2 a3 p0 p1 p2 p3 p4
  go_wp2_with fail
  go_ret
  exact ⟨rfl, H8.out⟩
end Go.Proofs.YtcagfnllfenokaaDoor
