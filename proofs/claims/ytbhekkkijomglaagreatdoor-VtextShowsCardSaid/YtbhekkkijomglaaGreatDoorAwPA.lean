/- Put together: AwP, AwA. -/
import Derived.Test.YtbhekkkijomglaaGreatDoorValPA
import Derived.Test.YtbhekkkijomglaaGreatDoorRdIA
import Derived.Test.YtbhekkkijomglaaGreatDoorShV
namespace Go.Proofs.YtbhekkkijomglaaGreatDoor
/-! The examples of the statements, in plain Lean. -/
section
open Go.RowKit

def exV : V := .mk 3 0 [.mk 1 1 [], .mk 4 0 [.mk 2 1 [], .mk 1 (-2) []]]
theorem ex_show : showV exV = ([60, 49, 32, 91, 116, 114, 117, 101, 32, 45, 50, 93, 62], 0) := by kernel_rfl
theorem ex_read : ∃ m, readV [60, 49, 32, 91, 116, 114, 117, 101, 32, 45, 50, 93, 32, 62] = .ok exV 0 m := ⟨5, by kernel_rfl⟩
theorem ex_part : ∃ m, partV [40, 101, 113, 32, 53, 41] 3 = .ok (.mk 1 5 []) 5 m := ⟨1, by kernel_rfl⟩
theorem ex_r1 : readV [60, 49] = .bad 2 4 := by kernel_rfl
theorem ex_r2 : readV [60, 49, 93] = .bad 2 3 := by kernel_rfl
theorem ex_r3 : readV [116, 114, 117, 116, 104] = .bad 0 3 := by kernel_rfl
theorem ex_r4 : readV [49, 32, 50] = .bad 2 6 := by kernel_rfl
end

/-! The walks of num, ex, refused. -/
section
open Go.RowKit

set_option maxRecDepth 100000 in
set_option maxHeartbeats 2000000 in
theorem tnum_any (n : Int) (w : World) : Calls Tryz.prog 22 #[.int .i64 n] w fun e w' => e = .returned (.agg #[.int .u8 1, .int .i64 n, .slice none 0 0]) ∧ Below w.heap.size w w' := by
  have hb0 : Hid (∀ o, Below w.heap.size w (w.alloc o)) := fun o => (Below.refl w.heap.size w).alloc (Nat.le_refl _) o
  go_enter Tryz.func22, Tryz.ntmps22
  go_wp2_with fail
  refine bodyPost_ret (v := .agg #[.int .u8 1, .int .i64 n, .slice none 0 0]) (by simp [results, Tryz.results22, go_sem]) rfl ⟨rfl, ?_⟩
  exact hb0.out _

theorem ex_vsl {w : World} {g1 g2 : Nat} (h1 : Blk w g1 24 #[.int .u8 2, .int .i64 1, .slice none 0 0, .int .u8 1, .int .i64 (-2), .slice none 0 0]) (h2 : Blk w g2 24 #[.int .u8 1, .int .i64 1, .slice none 0 0, .int .u8 4, .int .i64 0, .slice (some ⟨g1, 0, none⟩) 2 2]) :
    Vsl w w.heap.size (some ⟨g2, 0, none⟩) exV.l := by
  have hin : Vsl w w.heap.size (some ⟨g1, 0, none⟩) [.mk 2 1 [], .mk 1 (-2) []] := by
    refine .row g1 0 _ (fun _ => none) (fun _ => 0) h1.lt (fun i x hx => ?_) (fun i x hx => ?_)
    · match i, hx with
      | 0, hx => simp at hx; subst hx; exact ⟨h1.cell 0, h1.cell 1, h1.cell 2⟩
      | 1, hx => simp at hx; subst hx; exact ⟨h1.cell 3, h1.cell 4, h1.cell 5⟩
      | i + 2, hx => simp at hx
    · match i, hx with
      | 0, hx => simp at hx; subst hx; exact .emp _
      | 1, hx => simp at hx; subst hx; exact .emp _
      | i + 2, hx => simp at hx
  refine .row g2 0 _ (fun i => if i = 1 then some ⟨g1, 0, none⟩ else none) (fun i => if i = 1 then 2 else 0) h2.lt (fun i x hx => ?_) (fun i x hx => ?_)
  · match i, hx with
    | 0, hx => simp [exV, V.l] at hx; subst hx; exact ⟨h2.cell 0, h2.cell 1, h2.cell 2⟩
    | 1, hx => simp [exV, V.l] at hx; subst hx; exact ⟨h2.cell 3, h2.cell 4, h2.cell 5⟩
    | i + 2, hx => simp [exV, V.l] at hx
  · match i, hx with
    | 0, hx => simp [exV, V.l] at hx; subst hx; exact .emp _
    | 1, hx => simp [exV, V.l] at hx; subst hx; exact hin
    | i + 2, hx => simp [exV, V.l] at hx

set_option maxRecDepth 100000 in
set_option maxHeartbeats 2000000 in
theorem ex_any (w : World) : Calls Tryz.prog 28 #[] w fun e w' => (∃ A c, e = .returned (.agg #[.int .u8 3, .int .i64 0, .slice A 2 c]) ∧ Vsl w' w'.heap.size A exV.l) ∧ Below w.heap.size w w' := by
  have HN := Lib.hid tnum_any
  go_enter Tryz.func28, Tryz.ntmps28
  go_wp2_with fail
  refine (HN.out 1 _).mono ?_
  rintro e w1 ⟨rfl, hb1⟩
  go_wp2_with fail
  refine (HN.out (-2) _).mono ?_
  rintro e w2 ⟨rfl, hb2⟩
  have r1 := res_held hb1
  have r2 := res_below r1 hb2
  have k1 := Blk.new w2 24 #[.int .u8 2, .int .i64 1, .slice none 0 0, .int .u8 1, .int .i64 (-2), .slice none 0 0]
  have k1' := k1.alloc (.cells #[.int .u8 1, .int .i64 1, .slice none 0 0, .int .u8 4, .int .i64 0, .slice (some ⟨w2.heap.size, 0, none⟩) 2 2] 24)
  have k2 := Blk.new (w2.alloc (.cells #[.int .u8 2, .int .i64 1, .slice none 0 0, .int .u8 1, .int .i64 (-2), .slice none 0 0] 24)) 24 #[.int .u8 1, .int .i64 1, .slice none 0 0, .int .u8 4, .int .i64 0, .slice (some ⟨w2.heap.size, 0, none⟩) 2 2]
  rw [World.size_alloc] at k2
  have r3 := res_below r2 (((Below.refl w2.heap.size w2).alloc (Nat.le_refl _) (.cells #[.int .u8 2, .int .i64 1, .slice none 0 0, .int .u8 1, .int .i64 (-2), .slice none 0 0] 24)).alloc (by simp) (.cells #[.int .u8 1, .int .i64 1, .slice none 0 0, .int .u8 4, .int .i64 0, .slice (some ⟨w2.heap.size, 0, none⟩) 2 2] 24))
  obtain ⟨⟨z0, z1, z2⟩, f0, f1, f2⟩ := r3.1.three
  have hlt := r2.1.lt
  have e0 : ∀ i, w2.heap.size ≠ (⟨w.heap.size, i, none⟩ : Addr).block := fun i => by show w2.heap.size ≠ w.heap.size; omega
  have e1 : ∀ i, w2.heap.size + 1 ≠ (⟨w.heap.size, i, none⟩ : Addr).block := fun i => by show w2.heap.size + 1 ≠ w.heap.size; omega
  have r4 := res_set r3 (.int .u8 3) (.int .i64 0) (.slice (some ⟨w2.heap.size + 1, 0, none⟩) 2 2)
  have hv := ex_vsl (((k1'.far (e0 0) (.int .u8 3)).far (e0 1) (.int .i64 0)).far (e0 2) (.slice (some ⟨w2.heap.size + 1, 0, none⟩) 2 2)) (((k2.far (e1 0) (.int .u8 3)).far (e1 1) (.int .i64 0)).far (e1 2) (.slice (some ⟨w2.heap.size + 1, 0, none⟩) 2 2))
  have HX := Lib.hid (And.intro r4.2 hv)
  clear r1 r2 r3 r4 k1 k1' k2 hlt e0 e1 hv hb1 hb2 HN
  go_wp2_with fail
  refine bodyPost_ret (v := .agg #[.int .u8 3, .int .i64 0, .slice (some ⟨w2.heap.size + 1, 0, none⟩) 2 2]) (by simp [results, Tryz.results28, go_sem, z0, z1, z2]) rfl ⟨⟨_, _, rfl, ?_⟩, ?_⟩
  · exact HX.out.2
  · exact HX.out.1

theorem same_lit (v : V) (A B : Option Addr) (c d : Nat) (W : World) (hv : v.size ≤ 1000000) (hA : Vsl W W.heap.size A v.l) (hB : Vsl W W.heap.size B v.l) :
    Calls Tryz.prog 19 #[.agg #[.int .u8 v.k, .int .i64 v.n, .slice A v.l.length c], .agg #[.int .u8 v.k, .int .i64 v.n, .slice B v.l.length d]] W fun e w' => e = .returned (.bool true) ∧ Below W.heap.size W w' := vsame_eq v A B c d W hv hA hB
theorem same_zero (W : World) : Calls Tryz.prog 19 #[.agg #[.int .u8 0, .int .i64 0, .slice none 0 0], .agg #[.int .u8 0, .int .i64 0, .slice none 0 0]] W fun e w' => e = .returned (.bool true) ∧ Below W.heap.size W w' := vsame_eq (.mk 0 0 []) none none 0 0 W (by rw [V.size, V.sizes]; decide) (.emp _) (.emp _)

set_option maxRecDepth 100000 in
set_option maxHeartbeats 2000000 in
theorem refused_any (l : List UInt8) (p e : Nat) (hl : l.length ≤ 65536) (hr : readV l = .bad p e) (w : World) (hv : Env w) : Calls Tryz.prog 29 #[.string (bs l), .int .i64 p, .int .i64 e] w fun en w' => en = .returned (.bool true) ∧ Below w.heap.size w w' := by
  have hR := read_any (bs l) w (by rw [bs_size]; omega) hv
  rw [bs_list, hr] at hR
  have HR := Lib.hid hR
  have HS := Lib.hid same_zero
  clear hR hr hl
  go_enter Tryz.func29, Tryz.ntmps29
  go_wp2_with fail
  refine HR.out.mono ?_
  rintro e' w1 ⟨rfl, hb1⟩
  have HB := Lib.hid hb1
  clear hb1
  go_wp2_with fail
  refine (HS.out _).mono ?_
  rintro e' w2 ⟨rfl, hb2⟩
  have HX := Lib.hid ((HB.out.alloc HB.out.size _).trans (hb2.mono (by have := HB.out.size; simp; omega)))
  clear hb2
  go_wp2_with fail
  go_ret
  exact ⟨rfl, HX.out⟩
end
end Go.Proofs.YtbhekkkijomglaaGreatDoor
