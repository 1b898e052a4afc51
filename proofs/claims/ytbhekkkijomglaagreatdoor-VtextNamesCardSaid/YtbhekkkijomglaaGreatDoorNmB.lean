/- The walk of the statement VtextNames: its frame, its contracts. -/
import Derived.Test.YtbhekkkijomglaaGreatDoorNmA
namespace Go.Proofs.YtbhekkkijomglaaGreatDoor
open Go.RowKit

theorem list_fun280 (l : List Value) (n : Nat) (h : l.length = n) : l = (List.range n).map fun i => l.getD i undef := by
  subst h
  apply List.ext_getElem?
  intro i
  rw [List.getElem?_map]
  rcases Nat.lt_or_ge i l.length with hi | hi
  · rw [List.getElem?_range hi, List.getElem?_eq_getElem hi]
    show _ = some (l.getD i undef)
    rw [List.getD_eq_getElem?_getD, List.getElem?_eq_getElem hi]; rfl
  · rw [List.getElem?_eq_none hi, List.getElem?_eq_none (by simpa using hi)]; rfl
set_option maxRecDepth 100000 in
theorem range_280 (f : Nat → Value) : (List.range 280).map f = [f 0, f 1, f 2, f 3, f 4, f 5, f 6, f 7, f 8, f 9, f 10, f 11, f 12, f 13, f 14, f 15, f 16, f 17, f 18, f 19, f 20, f 21, f 22, f 23, f 24, f 25, f 26, f 27, f 28, f 29, f 30, f 31, f 32, f 33, f 34, f 35, f 36, f 37, f 38, f 39, f 40, f 41, f 42, f 43, f 44, f 45, f 46, f 47, f 48, f 49, f 50, f 51, f 52, f 53, f 54, f 55, f 56, f 57, f 58, f 59, f 60, f 61, f 62, f 63, f 64, f 65, f 66, f 67, f 68, f 69, f 70, f 71, f 72, f 73, f 74, f 75, f 76, f 77, f 78, f 79, f 80, f 81, f 82, f 83, f 84, f 85, f 86, f 87, f 88, f 89, f 90, f 91, f 92, f 93, f 94, f 95, f 96, f 97, f 98, f 99, f 100, f 101, f 102, f 103, f 104, f 105, f 106, f 107, f 108, f 109, f 110, f 111, f 112, f 113, f 114, f 115, f 116, f 117, f 118, f 119, f 120, f 121, f 122, f 123, f 124, f 125, f 126, f 127, f 128, f 129, f 130, f 131, f 132, f 133, f 134, f 135, f 136, f 137, f 138, f 139, f 140, f 141, f 142, f 143, f 144, f 145, f 146, f 147, f 148, f 149, f 150, f 151, f 152, f 153, f 154, f 155, f 156, f 157, f 158, f 159, f 160, f 161, f 162, f 163, f 164, f 165, f 166, f 167, f 168, f 169, f 170, f 171, f 172, f 173, f 174, f 175, f 176, f 177, f 178, f 179, f 180, f 181, f 182, f 183, f 184, f 185, f 186, f 187, f 188, f 189, f 190, f 191, f 192, f 193, f 194, f 195, f 196, f 197, f 198, f 199, f 200, f 201, f 202, f 203, f 204, f 205, f 206, f 207, f 208, f 209, f 210, f 211, f 212, f 213, f 214, f 215, f 216, f 217, f 218, f 219, f 220, f 221, f 222, f 223, f 224, f 225, f 226, f 227, f 228, f 229, f 230, f 231, f 232, f 233, f 234, f 235, f 236, f 237, f 238, f 239, f 240, f 241, f 242, f 243, f 244, f 245, f 246, f 247, f 248, f 249, f 250, f 251, f 252, f 253, f 254, f 255, f 256, f 257, f 258, f 259, f 260, f 261, f 262, f 263, f 264, f 265, f 266, f 267, f 268, f 269, f 270, f 271, f 272, f 273, f 274, f 275, f 276, f 277, f 278, f 279] := by kernel_rfl
set_option maxRecDepth 100000 in
theorem fr280_of (a : Act) (g : Nat) (h : a.tmps.size = 280) (hd : a.defers = []) (h1 : a.tmps.getD 101 undef = .slice (some ⟨g, 0, none⟩) 27 27) (h2 : a.tmps.getD 102 undef = .int .i64 27) (h3 : a.tmps.getD 103 undef = .int .i64 0) :
    ∃ fl : Nat → Value, a = { tmps := #[fl 0, fl 1, fl 2, fl 3, fl 4, fl 5, fl 6, fl 7, fl 8, fl 9, fl 10, fl 11, fl 12, fl 13, fl 14, fl 15, fl 16, fl 17, fl 18, fl 19, fl 20, fl 21, fl 22, fl 23, fl 24, fl 25, fl 26, fl 27, fl 28, fl 29, fl 30, fl 31, fl 32, fl 33, fl 34, fl 35, fl 36, fl 37, fl 38, fl 39, fl 40, fl 41, fl 42, fl 43, fl 44, fl 45, fl 46, fl 47, fl 48, fl 49, fl 50, fl 51, fl 52, fl 53, fl 54, fl 55, fl 56, fl 57, fl 58, fl 59, fl 60, fl 61, fl 62, fl 63, fl 64, fl 65, fl 66, fl 67, fl 68, fl 69, fl 70, fl 71, fl 72, fl 73, fl 74, fl 75, fl 76, fl 77, fl 78, fl 79, fl 80, fl 81, fl 82, fl 83, fl 84, fl 85, fl 86, fl 87, fl 88, fl 89, fl 90, fl 91, fl 92, fl 93, fl 94, fl 95, fl 96, fl 97, fl 98, fl 99, fl 100, .slice (some ⟨g, 0, none⟩) 27 27, .int .i64 27, .int .i64 0, fl 104, fl 105, fl 106, fl 107, fl 108, fl 109, fl 110, fl 111, fl 112, fl 113, fl 114, fl 115, fl 116, fl 117, fl 118, fl 119, fl 120, fl 121, fl 122, fl 123, fl 124, fl 125, fl 126, fl 127, fl 128, fl 129, fl 130, fl 131, fl 132, fl 133, fl 134, fl 135, fl 136, fl 137, fl 138, fl 139, fl 140, fl 141, fl 142, fl 143, fl 144, fl 145, fl 146, fl 147, fl 148, fl 149, fl 150, fl 151, fl 152, fl 153, fl 154, fl 155, fl 156, fl 157, fl 158, fl 159, fl 160, fl 161, fl 162, fl 163, fl 164, fl 165, fl 166, fl 167, fl 168, fl 169, fl 170, fl 171, fl 172, fl 173, fl 174, fl 175, fl 176, fl 177, fl 178, fl 179, fl 180, fl 181, fl 182, fl 183, fl 184, fl 185, fl 186, fl 187, fl 188, fl 189, fl 190, fl 191, fl 192, fl 193, fl 194, fl 195, fl 196, fl 197, fl 198, fl 199, fl 200, fl 201, fl 202, fl 203, fl 204, fl 205, fl 206, fl 207, fl 208, fl 209, fl 210, fl 211, fl 212, fl 213, fl 214, fl 215, fl 216, fl 217, fl 218, fl 219, fl 220, fl 221, fl 222, fl 223, fl 224, fl 225, fl 226, fl 227, fl 228, fl 229, fl 230, fl 231, fl 232, fl 233, fl 234, fl 235, fl 236, fl 237, fl 238, fl 239, fl 240, fl 241, fl 242, fl 243, fl 244, fl 245, fl 246, fl 247, fl 248, fl 249, fl 250, fl 251, fl 252, fl 253, fl 254, fl 255, fl 256, fl 257, fl 258, fl 259, fl 260, fl 261, fl 262, fl 263, fl 264, fl 265, fl 266, fl 267, fl 268, fl 269, fl 270, fl 271, fl 272, fl 273, fl 274, fl 275, fl 276, fl 277, fl 278, fl 279], defers := [] } := by
  obtain ⟨t, d⟩ := a
  obtain ⟨l⟩ := t
  have hd' : d = [] := hd
  subst hd'
  have hl := list_fun280 l 280 h
  rw [range_280] at hl
  have e : ∀ (i : Nat) (v : Value), (Array.mk l).getD i undef = v → l.getD i undef = v := fun i v q => by rw [← q, Array.getD_eq_getD_getElem?, List.getD_eq_getElem?_getD, List.getElem?_toArray]
  have q1 := e 101 _ h1
  have q2 := e 102 _ h2
  have q3 := e 103 _ h3
  refine ⟨fun i => l.getD i undef, ?_⟩
  rw [q1, q2, q3] at hl
  exact congrArg (fun x : List Value => ({ tmps := ⟨x⟩, defers := [] } : Act)) hl
theorem read_nm (k : Nat) (hk : k < 27) (W : World) (hv : Env W) : Calls Tryz.prog 17 #[.string (nmS k)] W fun e w' => ∃ (uk : Nat) (un : Int) (A : Option Addr) (n c : Nat), e = .returned (.tuple #[.agg #[.int .u8 uk, .int .i64 un, .slice A n c], .int .i64 (nmP k), .int .i64 (nmE k)]) ∧ Below W.heap.size W w' := by
  obtain ⟨h1, h2⟩ := nm_all k hk
  have h := read_any (nmS k) W (by omega) hv
  cases hr : readV (nmS k).data.toList with
  | ok v a m =>
    rw [hr] at h h1
    have e1 : (0, 0) = (nmP k, nmE k) := h1
    obtain ⟨p1, p2⟩ := Prod.mk.inj e1
    refine h.mono fun e w' ⟨A, c, q1, q2, _⟩ => ⟨v.k, v.n, A, v.l.length, c, ?_, q2⟩
    rw [q1, ← p1, ← p2]; rfl
  | bad p er =>
    rw [hr] at h h1
    have e1 : (p, er) = (nmP k, nmE k) := h1
    obtain ⟨p1, p2⟩ := Prod.mk.inj e1
    refine h.mono fun e w' ⟨q1, q2⟩ => ⟨0, 0, none, 0, 0, ?_, q2⟩
    rw [q1, p1, p2]; rfl
/-- What holds all along. -/
structure Nm (w W : World) (g : Nat) : Prop where
  e : Env W
  b : Below w.heap.size w W
  k : Blk W g 38 nmCells
theorem Nm.held {w W W' : World} {g : Nat} (h : Nm w W g) (hb : Below W.heap.size W W') : Nm w W' g := ⟨h.e.step hb, h.b.trans (hb.mono h.b.size), h.k.below hb h.k.lt⟩
theorem Nm.cells {w W : World} {g k : Nat} (h : Nm w W g) (hk : k < 27) : W.cell? ⟨g, k * 3, none⟩ = some (.string (nmS k)) ∧ W.cell? ⟨g, k * 3 + 1, none⟩ = some (.int .i64 (nmP k)) ∧ W.cell? ⟨g, k * 3 + 2, none⟩ = some (.int .i64 (nmE k)) := by
  obtain ⟨h1, h2, h3⟩ := nm_cells k hk
  exact ⟨(h.k.cell _).trans h1, (h.k.cell _).trans h2, (h.k.cell _).trans h3⟩
/-- The strings of the wide texts, by letters. -/
theorem nm_strs : ∃ zA zB zC : ByteArray, zA.size ≤ 1000 ∧ zB.size ≤ 10000 ∧ zC.size ≤ 1000 ∧
    Hid (∀ W, Calls Tryz.prog 21 #[.string ⟨#[48, 32]⟩, .int .i64 64] W fun e w' => e = .returned (.string zA) ∧ Below W.heap.size W w') ∧
    Hid (∀ W, Calls Tryz.prog 21 #[.string (((⟨#[91]⟩ : ByteArray) ++ zA) ++ (⟨#[93]⟩ : ByteArray)), .int .i64 62] W fun e w' => e = .returned (.string zB) ∧ Below W.heap.size W w') ∧
    Hid (∀ W, Calls Tryz.prog 21 #[.string ⟨#[48, 32]⟩, .int .i64 63] W fun e w' => e = .returned (.string zC) ∧ Below W.heap.size W w') ∧
    Hid (((((⟨#[60]⟩ : ByteArray) ++ zB) ++ (⟨#[91]⟩ : ByteArray)) ++ zC) ++ (⟨#[93]⟩ : ByteArray) = bs wideL) := by
  refine ⟨z64, bs (repsL (zT 64) 62), bs (repsL [48, 32] 63), by rw [sz64]; decide, by rw [bs_size, repsL_length, zT_length]; decide, by rw [bs_size, repsL_length]; decide, fun W => times_any _ 64 W (by decide) (by decide), fun W => ?_, fun W => times_any _ 63 W (by decide) (by decide), ?_⟩
  · have h := times_any (((⟨#[91]⟩ : ByteArray) ++ z64) ++ (⟨#[93]⟩ : ByteArray)) 62 W (by decide) (by rw [ByteArray.size_append, ByteArray.size_append, sz64]; decide)
    rw [cat_list, cat_list, bs_list] at h
    exact h
  · show (((bs [60] ++ bs (repsL (zT 64) 62)) ++ bs [91]) ++ bs (repsL [48, 32] 63)) ++ bs [93] = _
    rw [bs_append, bs_append, bs_append, bs_append, wideL]
    simp [zT]
theorem read_wide (S : ByteArray) (hS : S = bs wideL) (W : World) (hv : Env W) : Calls Tryz.prog 17 #[.string (S ++ (⟨#[49, 62]⟩ : ByteArray))] W fun e w' => ∃ (uk : Nat) (un : Int) (A : Option Addr) (n c : Nat), e = .returned (.tuple #[.agg #[.int .u8 uk, .int .i64 un, .slice A n c], .int .i64 0, .int .i64 0]) ∧ Below W.heap.size W w' := by
  obtain ⟨v, m, hr⟩ := wide_ok
  have h := read_any (S ++ (⟨#[49, 62]⟩ : ByteArray)) W (by rw [hS, ByteArray.size_append, bs_size, wideL_length]; decide) hv
  rw [cat_list, hS, bs_list, show (⟨#[49, 62]⟩ : ByteArray).data.toList = [49, 62] from rfl, hr] at h
  rw [hS]
  exact h.mono fun e w' ⟨A, c, q1, q2, _⟩ => ⟨v.k, v.n, A, v.l.length, c, q1, q2⟩
theorem read_wide1 (S : ByteArray) (hS : S = bs wideL) (W : World) (hv : Env W) : Calls Tryz.prog 17 #[.string (S ++ (⟨#[91, 49, 93, 62]⟩ : ByteArray))] W fun e w' => e = .returned (.tuple #[.agg #[.int .u8 0, .int .i64 0, .slice none 0 0], .int .i64 8190, .int .i64 5]) ∧ Below W.heap.size W w' := by
  have h := read_any (S ++ (⟨#[91, 49, 93, 62]⟩ : ByteArray)) W (by rw [hS, ByteArray.size_append, bs_size, wideL_length]; decide) hv
  rw [cat_list, hS, bs_list, show (⟨#[91, 49, 93, 62]⟩ : ByteArray).data.toList = [91, 49, 93, 62] from rfl, wide_b1] at h
  rw [hS]
  exact h
theorem read_wide2 (S : ByteArray) (hS : S = bs wideL) (W : World) (hv : Env W) : Calls Tryz.prog 17 #[.string (S ++ (⟨#[91, 57, 57, 57, 57, 57, 57, 57, 57, 57, 57, 57, 57, 57, 93, 62]⟩ : ByteArray))] W fun e w' => e = .returned (.tuple #[.agg #[.int .u8 0, .int .i64 0, .slice none 0 0], .int .i64 8190, .int .i64 5]) ∧ Below W.heap.size W w' := by
  have h := read_any (S ++ (⟨#[91, 57, 57, 57, 57, 57, 57, 57, 57, 57, 57, 57, 57, 57, 93, 62]⟩ : ByteArray)) W (by rw [hS, ByteArray.size_append, bs_size, wideL_length]; decide) hv
  rw [cat_list, hS, bs_list, show (⟨#[91, 57, 57, 57, 57, 57, 57, 57, 57, 57, 57, 57, 57, 57, 93, 62]⟩ : ByteArray).data.toList = [91, 57, 57, 57, 57, 57, 57, 57, 57, 57, 57, 57, 57, 57, 93, 62] from rfl, wide_b2] at h
  rw [hS]
  exact h
theorem wide_size (S : ByteArray) (hS : S = bs wideL) : S.size = 8189 := by rw [hS, bs_size, wideL_length]
/-- Of the second table: read, and shown. -/
theorem read_nt (k : Nat) (hk : k < 9) (W : World) (hv : Env W) : Calls Tryz.prog 17 #[.string (bs (nmT k))] W fun e w' => ∃ (A : Option Addr) (c : Nat), e = .returned (.tuple #[.agg #[.int .u8 (nmV k).k, .int .i64 (nmV k).n, .slice A (nmV k).l.length c], .int .i64 0, .int .i64 0]) ∧ Below W.heap.size W w' ∧ Hid (Vsl w' w'.heap.size A (nmV k).l) := by
  obtain ⟨⟨m, h1⟩, h2, h3, h4⟩ := nt_all k hk
  have h := read_any (bs (nmT k)) W (by rw [bs_size]; omega) hv
  rw [bs_list, h1] at h
  exact h.mono fun e w' ⟨A, c, q1, q2, q3⟩ => ⟨A, c, q1, q2, q3.fresh_vsl⟩
theorem show_nt (k : Nat) (hk : k < 9) (A : Option Addr) (c : Nat) (W : World) (hv : Env W) (hV : Vsl W W.heap.size A (nmV k).l) : Calls Tryz.prog 13 #[.agg #[.int .u8 (nmV k).k, .int .i64 (nmV k).n, .slice A (nmV k).l.length c]] W fun e w' => e = .returned (.tuple #[.string (bs (nmT k)), .int .i64 0]) ∧ Below W.heap.size W w' := by
  obtain ⟨_, h2, h3, h4⟩ := nt_all k hk
  have h := vshow_any (nmV k) A c W hv hV (by omega)
  rw [h2] at h
  exact h
def nt9 : Array Value := #[.string ⟨#[116, 114, 117, 101]⟩, .string ⟨#[102, 97, 108, 115, 101]⟩, .string ⟨#[48]⟩, .string ⟨#[45, 53]⟩, .string ⟨#[60, 62]⟩, .string ⟨#[91, 93]⟩, .string ⟨#[91, 60, 62, 32, 91, 93, 32, 60, 91, 93, 62, 93]⟩, .string ⟨#[49, 48, 57, 57, 53, 49, 49, 54, 50, 55, 55, 55, 54]⟩, .string ⟨#[45, 49, 48, 57, 57, 53, 49, 49, 54, 50, 55, 55, 55, 54]⟩]
theorem nt9_at : ∀ k, k < 9 → nt9[k]? = some (.string (bs (nmT k)))
  | 0, _ => rfl
  | 1, _ => rfl
  | 2, _ => rfl
  | 3, _ => rfl
  | 4, _ => rfl
  | 5, _ => rfl
  | 6, _ => rfl
  | 7, _ => rfl
  | 8, _ => rfl
  | i + 9, h => absurd h (by omega)
theorem show_no (W : World) (hv : Env W) : Calls Tryz.prog 13 #[.agg #[.int .u8 0, .int .i64 0, .slice none 0 0]] W fun e w' => e = .returned (.tuple #[.string (bs []), .int .i64 11]) ∧ Below W.heap.size W w' := by
  have h := vshow_any (.mk 0 0 []) none 0 W hv (.emp _) (by decide +kernel)
  rw [nsa] at h
  exact h
theorem show_far (W : World) (hv : Env W) : Calls Tryz.prog 13 #[.agg #[.int .u8 1, .int .i64 1099511627777, .slice none 0 0]] W fun e w' => e = .returned (.tuple #[.string (bs []), .int .i64 1]) ∧ Below W.heap.size W w' := by
  have h := vshow_any (.mk 1 1099511627777 []) none 0 W hv (.emp _) (by decide +kernel)
  rw [nsb] at h
  exact h
theorem part_a (W : World) (hv : Env W) : Calls Tryz.prog 18 #[.string ⟨#[49]⟩, .int .i64 2] W fun e w' => e = .returned (.tuple #[.agg #[.int .u8 0, .int .i64 0, .slice none 0 0], .int .i64 0, .int .i64 0, .int .i64 1]) ∧ Below W.heap.size W w' := by
  have h := part_any (bs [49]) 2 W (by rw [bs_size]; decide) hv
  rw [bs_list, npa] at h
  exact h
theorem part_b (W : World) (hv : Env W) : Calls Tryz.prog 18 #[.string ⟨#[49]⟩, .int .i64 (-1)] W fun e w' => e = .returned (.tuple #[.agg #[.int .u8 0, .int .i64 0, .slice none 0 0], .int .i64 0, .int .i64 0, .int .i64 1]) ∧ Below W.heap.size W w' := by
  have h := part_any (bs [49]) (-1) W (by rw [bs_size]; decide) hv
  rw [bs_list, npb] at h
  exact h
theorem part_c (W : World) (hv : Env W) : Calls Tryz.prog 18 #[.string ⟨#[97, 32, 55, 93]⟩, .int .i64 1] W fun e w' => ∃ A c, e = .returned (.tuple #[.agg #[.int .u8 1, .int .i64 7, .slice A 0 c], .int .i64 3, .int .i64 0, .int .i64 0]) ∧ Below W.heap.size W w' := by
  have h := part_any (bs [97, 32, 55, 93]) 1 W (by rw [bs_size]; decide) hv
  rw [bs_list, npc] at h
  exact h.mono fun e w' ⟨A, c, q1, q2, _⟩ => ⟨A, c, q1, q2⟩
theorem part_d (W : World) (hv : Env W) : Calls Tryz.prog 18 #[.string ⟨#[55]⟩, .int .i64 1] W fun e w' => e = .returned (.tuple #[.agg #[.int .u8 0, .int .i64 0, .slice none 0 0], .int .i64 0, .int .i64 1, .int .i64 4]) ∧ Below W.heap.size W w' := by
  have h := part_any (bs [55]) 1 W (by rw [bs_size]; decide) hv
  rw [bs_list, npd] at h
  exact h
end Go.Proofs.YtbhekkkijomglaaGreatDoor
