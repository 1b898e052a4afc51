/- Put together: ShV, AwA. -/
import Derived.Test.YtbhekkkijomglaaGreatDoorWrA
import Derived.Test.YtbhekkkijomglaaGreatDoorVtR
import Derived.Test.YtbhekkkijomglaaGreatDoorValC
import Derived.Test.YtbhekkkijomglaaGreatDoorAwPZ
import Derived.Test.YtbhekkkijomglaaGreatDoorRdMZ
import Derived.Lib.ItoaLen
namespace Go.Proofs.YtbhekkkijomglaaGreatDoor
/-! The walk of Show: a value's text. -/
section
open Go.RowKit

theorem text_len : ∀ v : V, v.first = 0 → v.text.length + 1 ≤ 23 * v.size := by
  intro v
  induction v using V.ind with
  | h k n l ih =>
    intro h
    obtain ⟨h0, hs⟩ := first_node h
    rw [V.text, V.size]
    by_cases h1 : k = 1
    · rw [if_pos h1]
      subst h1
      have hn : -9223372036854775808 ≤ n ∧ n ≤ 9223372036854775807 := by
        unfold nodeE at h0
        by_cases hq : n < -1099511627776 ∨ 1099511627776 < n
        · rw [if_pos ⟨rfl, hq⟩] at h0; exact absurd h0 (by decide)
        · omega
      have := Lib.itoa_length_le n hn.1 hn.2
      omega
    rw [if_neg h1]
    by_cases h2 : k = 2
    · rw [if_pos h2]
      split
      · show 4 + 1 ≤ _; omega
      · show 5 + 1 ≤ _; omega
    rw [if_neg h2]
    have hw : wide l ≤ 23 * V.sizes l := by
      clear h h0
      induction l with
      | nil => exact Nat.zero_le _
      | cons x r ihr =>
        rw [wide, V.sizes]
        have h1 := ih x List.mem_cons_self (hs x List.mem_cons_self)
        have h2 := ihr (fun y hy => ih y (List.mem_cons_of_mem _ hy)) (fun y hy => hs y (List.mem_cons_of_mem _ hy))
        omega
    have := texts_wide true l
    simp only [List.length_cons, List.length_append, List.length_nil]
    omega

def showAgg (x : List UInt8 × Nat) : Value := .tuple #[.string (bs x.1), .int .i64 x.2]

set_option maxRecDepth 100000 in
set_option maxHeartbeats 1000000 in
theorem vshow_any (v : V) (A : Option Addr) (c : Nat) (w : World) (hv : Env w) (hV : Vsl w w.heap.size A v.l) (hsz : v.size < 1000000) :
    Calls Tryz.prog 13 #[vAgg v A c] w fun e w' => e = .returned (showAgg (showV v)) ∧ Below w.heap.size w w' := by
  have HC := Lib.hid (fun W hW => vcheck_any v A c W hW hsz)
  have HV := Lib.hid hV
  change Hid (∀ W, Vsl W W.heap.size A v.l → Calls Tryz.prog 30 #[.agg #[.int .u8 v.k, .int .i64 v.n, .slice A v.l.length c]] W _) at HC
  show Calls Tryz.prog 13 #[.agg #[.int .u8 v.k, .int .i64 v.n, .slice A v.l.length c]] w fun e w' => e = .returned (showAgg (showV v)) ∧ Below w.heap.size w w'
  have hchk : v.check = 0 → v.first = 0 ∧ v.text.length ≤ 1000000000 := fun h => by
    obtain ⟨h1, _, h3⟩ := check_first h
    have := text_len v h1
    exact ⟨h1, by omega⟩
  have hWr := fun (h : v.check = 0) => write_ok v (hchk h).1
  obtain ⟨R, hR⟩ : ∃ R, R = showV v := ⟨_, rfl⟩
  rw [← hR]
  unfold showV at hR
  have HR := Lib.hid hR; have HW := Lib.hid hWr; have HK := Lib.hid hchk
  clear hWr hV hchk hR
  generalize hE : v.check = E at HC HR HW HK
  clear hE
  go_enter Tryz.func13, Tryz.ntmps13
  by_cases hE : E = 0
  · subst hE
    have hKl := (HK.out rfl).2
    go_wp2_with fail
    refine (HC.out _ ((HV.out.alloc (Nat.le_refl _) _).more (by simp))).mono ?_
    rintro e w1 ⟨rfl, hb1'⟩
    have hb1 := ((Below.refl w.heap.size w).alloc (Nat.le_refl _) (.cells #[.int .u8 v.k, .int .i64 v.n, .slice A v.l.length c] 24)).trans (hb1'.mono (by simp))
    have hvb := ((Blk.new w 24 #[.int .u8 v.k, .int .i64 v.n, .slice A v.l.length c]).below hb1' (by simp)).alloc (.cells #[.pointer none, .slice none 0 0] 62)
    obtain ⟨⟨q0, q1, q2⟩, _⟩ := hvb.three
    clear hb1' hvb
    have hb2 := hb1.alloc hb1.size (.cells #[.pointer none, .slice none 0 0] 62)
    have hA2 := (HV.out.held hb2).more hb1.size
    have hbl : Lib.IsBuilderF 62 5 w1.heap.size w1.heap.size (Lib.byteCells []) (w1.alloc (.cells #[.pointer none, .slice none 0 0] 62)) :=
      .inl ⟨Nat.le_refl _, .slice none 0 0, heap_alloc_new w1 _, ⟨by simp [Lib.byteCells], .inl ⟨rfl, rfl⟩⟩, by simp [Value.ownBlock]⟩
    go_wp2_with fail
    refine (HW.out (by trivial) w _ w1.heap.size w1.heap.size [] A c hv hb2 hb1.size (by simp) hbl (by simp; omega) hA2).mono ?_
    rintro e w2 ⟨rfl, hB2, hb3, _⟩
    have hx := hb2.trans (((Below.refl _ _).trans hb3).mono hb1.size)
    rw [List.nil_append] at hB2
    generalize v.text = acc at *
    rw [if_neg (by simp)] at HR
    have hbld := Or.inr (a := Lib.BuilderAtF 62 5 w1.heap.size w1.heap.size (.pointer none) (Lib.byteCells acc) w2) hB2
    have hsz1 : w1.heap.size ≤ w2.heap.size := by have := hb3.size; simp at this; omega
    have hw1 := hb1.size
    clear hb1 hb2 hb3 hB2 hA2 hbl
    by_cases hlong : 65536 < acc.length
    · rw [if_pos hlong] at HR
      have hl1 : (65536 : Int) < ((Lib.byteCells acc).length : Int) := by rw [Lib.byteCells_length]; omega
      go_wp2_with fail
      refine (Tryz.Builder_Len_f w1.heap.size w1.heap.size _ _ hbld).mono ?_
      rintro e' w3 ⟨rfl, hw⟩
      subst hw
      go_wp2_with fail
      refine bodyPost_ret (v := .tuple #[.string ⟨#[]⟩, .int .i64 5]) (by simp [results, Tryz.results13, go_sem]) rfl ⟨by rw [HR.out]; rfl, hx⟩
    · rw [if_neg hlong] at HR
      have hl1 : ¬ (65536 : Int) < ((Lib.byteCells acc).length : Int) := by rw [Lib.byteCells_length]; omega
      go_wp2_with fail
      refine (Tryz.Builder_Len_f w1.heap.size w1.heap.size _ _ hbld).mono ?_
      rintro e' w3 ⟨rfl, hw⟩
      subst hw
      go_wp2_with fail
      refine (Tryz.Builder_String_any_f w1.heap.size w1.heap.size acc _ hbld hsz1).mono ?_
      rintro e' w4 ⟨rfl, _, hb4⟩
      go_wp2_with fail
      refine bodyPost_ret (v := .tuple #[.string (bs acc), .int .i64 0]) (by simp [results, Tryz.results13, go_sem, bs]) rfl ⟨by rw [HR.out]; rfl, hx.trans (hb4.mono hw1)⟩
  · rw [if_pos hE] at HR
    have hne : ((E : Int) == 0) = false := beq_eq_false_iff_ne.2 (by omega)
    have hne' : ((E : Int) != 0) = true := bne_iff_ne.2 (by omega)
    go_wp2_with fail
    refine (HC.out _ ((HV.out.alloc (Nat.le_refl _) _).more (by simp))).mono ?_
    rintro e w1 ⟨rfl, hb1'⟩
    have hb1 := ((Below.refl w.heap.size w).alloc (Nat.le_refl _) (.cells #[.int .u8 v.k, .int .i64 v.n, .slice A v.l.length c] 24)).trans (hb1'.mono (by simp))
    clear hb1'
    go_wp2_with fail
    refine bodyPost_ret (v := .tuple #[.string ⟨#[]⟩, .int .i64 E]) (by simp [results, Tryz.results13, go_sem]) rfl ⟨by rw [HR.out]; rfl, hb1⟩
end

/-! The walks of num, ex, refused. -/
section
open Go.RowKit

set_option maxRecDepth 100000 in
set_option maxHeartbeats 2000000 in
theorem tnum_any (n : Int) (w : World) : Calls Tryz.prog 22 #[.int .i64 n] w fun e w' => e = .returned (.agg #[.int .u8 1, .int .i64 n, .slice none 0 0]) ∧ Below w.heap.size w w' := by
  have hb0 : Hid (∀ o, Below w.heap.size w (w.alloc o)) := fun o => (Below.refl w.heap.size w).alloc (Nat.le_refl _) o
  go_enter Tryz.func22, Tryz.ntmps22
  go_wp2_with fail
  refine bodyPost_ret (v := .agg #[.int .u8 1, .int .i64 n, .slice none 0 0]) (by simp [results, Tryz.results22, go_sem]) rfl ⟨rfl, ?_⟩
  exact hb0.out _

theorem ex_vsl {w : World} {g1 g2 : Nat} (h1 : Blk w g1 24 #[.int .u8 2, .int .i64 1, .slice none 0 0, .int .u8 1, .int .i64 (-2), .slice none 0 0]) (h2 : Blk w g2 24 #[.int .u8 1, .int .i64 1, .slice none 0 0, .int .u8 4, .int .i64 0, .slice (some ⟨g1, 0, none⟩) 2 2]) :
    Vsl w w.heap.size (some ⟨g2, 0, none⟩) exV.l := by
  have hin : Vsl w w.heap.size (some ⟨g1, 0, none⟩) [.mk 2 1 [], .mk 1 (-2) []] := by
    refine .row g1 0 _ (fun _ => none) (fun _ => 0) h1.lt (fun i x hx => ?_) (fun i x hx => ?_)
    · match i, hx with
      | 0, hx => simp at hx; subst hx; exact ⟨h1.cell 0, h1.cell 1, h1.cell 2⟩
      | 1, hx => simp at hx; subst hx; exact ⟨h1.cell 3, h1.cell 4, h1.cell 5⟩
      | i + 2, hx => simp at hx
    · match i, hx with
      | 0, hx => simp at hx; subst hx; exact .emp _
      | 1, hx => simp at hx; subst hx; exact .emp _
      | i + 2, hx => simp at hx
  refine .row g2 0 _ (fun i => if i = 1 then some ⟨g1, 0, none⟩ else none) (fun i => if i = 1 then 2 else 0) h2.lt (fun i x hx => ?_) (fun i x hx => ?_)
  · match i, hx with
    | 0, hx => simp [exV, V.l] at hx; subst hx; exact ⟨h2.cell 0, h2.cell 1, h2.cell 2⟩
    | 1, hx => simp [exV, V.l] at hx; subst hx; exact ⟨h2.cell 3, h2.cell 4, h2.cell 5⟩
    | i + 2, hx => simp [exV, V.l] at hx
  · match i, hx with
    | 0, hx => simp [exV, V.l] at hx; subst hx; exact .emp _
    | 1, hx => simp [exV, V.l] at hx; subst hx; exact hin
    | i + 2, hx => simp [exV, V.l] at hx

set_option maxRecDepth 100000 in
set_option maxHeartbeats 2000000 in
theorem ex_any (w : World) : Calls Tryz.prog 28 #[] w fun e w' => (∃ A c, e = .returned (.agg #[.int .u8 3, .int .i64 0, .slice A 2 c]) ∧ Vsl w' w'.heap.size A exV.l) ∧ Below w.heap.size w w' := by
  have HN := Lib.hid tnum_any
  go_enter Tryz.func28, Tryz.ntmps28
  go_wp2_with fail
  refine (HN.out 1 _).mono ?_
  rintro e w1 ⟨rfl, hb1⟩
  go_wp2_with fail
  refine (HN.out (-2) _).mono ?_
  rintro e w2 ⟨rfl, hb2⟩
  have r1 := res_held hb1
  have r2 := res_below r1 hb2
  have k1 := Blk.new w2 24 #[.int .u8 2, .int .i64 1, .slice none 0 0, .int .u8 1, .int .i64 (-2), .slice none 0 0]
  have k1' := k1.alloc (.cells #[.int .u8 1, .int .i64 1, .slice none 0 0, .int .u8 4, .int .i64 0, .slice (some ⟨w2.heap.size, 0, none⟩) 2 2] 24)
  have k2 := Blk.new (w2.alloc (.cells #[.int .u8 2, .int .i64 1, .slice none 0 0, .int .u8 1, .int .i64 (-2), .slice none 0 0] 24)) 24 #[.int .u8 1, .int .i64 1, .slice none 0 0, .int .u8 4, .int .i64 0, .slice (some ⟨w2.heap.size, 0, none⟩) 2 2]
  rw [World.size_alloc] at k2
  have r3 := res_below r2 (((Below.refl w2.heap.size w2).alloc (Nat.le_refl _) (.cells #[.int .u8 2, .int .i64 1, .slice none 0 0, .int .u8 1, .int .i64 (-2), .slice none 0 0] 24)).alloc (by simp) (.cells #[.int .u8 1, .int .i64 1, .slice none 0 0, .int .u8 4, .int .i64 0, .slice (some ⟨w2.heap.size, 0, none⟩) 2 2] 24))
  obtain ⟨⟨z0, z1, z2⟩, f0, f1, f2⟩ := r3.1.three
  have hlt := r2.1.lt
  have e0 : ∀ i, w2.heap.size ≠ (⟨w.heap.size, i, none⟩ : Addr).block := fun i => by show w2.heap.size ≠ w.heap.size; omega
  have e1 : ∀ i, w2.heap.size + 1 ≠ (⟨w.heap.size, i, none⟩ : Addr).block := fun i => by show w2.heap.size + 1 ≠ w.heap.size; omega
  have r4 := res_set r3 (.int .u8 3) (.int .i64 0) (.slice (some ⟨w2.heap.size + 1, 0, none⟩) 2 2)
  have hv := ex_vsl (((k1'.far (e0 0) (.int .u8 3)).far (e0 1) (.int .i64 0)).far (e0 2) (.slice (some ⟨w2.heap.size + 1, 0, none⟩) 2 2)) (((k2.far (e1 0) (.int .u8 3)).far (e1 1) (.int .i64 0)).far (e1 2) (.slice (some ⟨w2.heap.size + 1, 0, none⟩) 2 2))
  have HX := Lib.hid (And.intro r4.2 hv)
  clear r1 r2 r3 r4 k1 k1' k2 hlt e0 e1 hv hb1 hb2 HN
  go_wp2_with fail
  refine bodyPost_ret (v := .agg #[.int .u8 3, .int .i64 0, .slice (some ⟨w2.heap.size + 1, 0, none⟩) 2 2]) (by simp [results, Tryz.results28, go_sem, z0, z1, z2]) rfl ⟨⟨_, _, rfl, ?_⟩, ?_⟩
  · exact HX.out.2
  · exact HX.out.1

theorem same_lit (v : V) (A B : Option Addr) (c d : Nat) (W : World) (hv : v.size ≤ 1000000) (hA : Vsl W W.heap.size A v.l) (hB : Vsl W W.heap.size B v.l) :
    Calls Tryz.prog 19 #[.agg #[.int .u8 v.k, .int .i64 v.n, .slice A v.l.length c], .agg #[.int .u8 v.k, .int .i64 v.n, .slice B v.l.length d]] W fun e w' => e = .returned (.bool true) ∧ Below W.heap.size W w' := vsame_eq v A B c d W hv hA hB
theorem same_zero (W : World) : Calls Tryz.prog 19 #[.agg #[.int .u8 0, .int .i64 0, .slice none 0 0], .agg #[.int .u8 0, .int .i64 0, .slice none 0 0]] W fun e w' => e = .returned (.bool true) ∧ Below W.heap.size W w' := vsame_eq (.mk 0 0 []) none none 0 0 W (by rw [V.size, V.sizes]; decide) (.emp _) (.emp _)

set_option maxRecDepth 100000 in
set_option maxHeartbeats 2000000 in
theorem refused_any (l : List UInt8) (p e : Nat) (hl : l.length ≤ 65536) (hr : readV l = .bad p e) (w : World) (hv : Env w) : Calls Tryz.prog 29 #[.string (bs l), .int .i64 p, .int .i64 e] w fun en w' => en = .returned (.bool true) ∧ Below w.heap.size w w' := by
  have hR := read_any (bs l) w (by rw [bs_size]; omega) hv
  rw [bs_list, hr] at hR
  have HR := Lib.hid hR
  have HS := Lib.hid same_zero
  clear hR hr hl
  go_enter Tryz.func29, Tryz.ntmps29
  go_wp2_with fail
  refine HR.out.mono ?_
  rintro e' w1 ⟨rfl, hb1⟩
  have HB := Lib.hid hb1
  clear hb1
  go_wp2_with fail
  refine (HS.out _).mono ?_
  rintro e' w2 ⟨rfl, hb2⟩
  have HX := Lib.hid ((HB.out.alloc HB.out.size _).trans (hb2.mono (by have := HB.out.size; simp; omega)))
  clear hb2
  go_wp2_with fail
  go_ret
  exact ⟨rfl, HX.out⟩
end
end Go.Proofs.YtbhekkkijomglaaGreatDoor
