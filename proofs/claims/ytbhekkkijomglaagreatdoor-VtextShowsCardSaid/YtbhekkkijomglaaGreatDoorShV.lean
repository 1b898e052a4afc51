/- The walk of Show: a value's text. -/
import Derived.Test.YtbhekkkijomglaaGreatDoorWrA
import Derived.Test.YtbhekkkijomglaaGreatDoorValPA
import Derived.Test.YtbhekkkijomglaaGreatDoorValC
import Derived.Lib.ItoaLen
namespace Go.Proofs.YtbhekkkijomglaaGreatDoor
open Go.RowKit

theorem text_len : ∀ v : V, v.first = 0 → v.text.length + 1 ≤ 23 * v.size := by
  intro v
  induction v using V.ind with
  | h k n l ih =>
    intro h
    obtain ⟨h0, hs⟩ := first_node h
    rw [V.text, V.size]
    by_cases h1 : k = 1
    · rw [if_pos h1]
      subst h1
      have hn : -9223372036854775808 ≤ n ∧ n ≤ 9223372036854775807 := by
        unfold nodeE at h0
        by_cases hq : n < -1099511627776 ∨ 1099511627776 < n
        · rw [if_pos ⟨rfl, hq⟩] at h0; exact absurd h0 (by decide)
        · omega
      have := Lib.itoa_length_le n hn.1 hn.2
      omega
    rw [if_neg h1]
    by_cases h2 : k = 2
    · rw [if_pos h2]
      split
      · show 4 + 1 ≤ _; omega
      · show 5 + 1 ≤ _; omega
    rw [if_neg h2]
    have hw : wide l ≤ 23 * V.sizes l := by
      clear h h0
      induction l with
      | nil => exact Nat.zero_le _
      | cons x r ihr =>
        rw [wide, V.sizes]
        have h1 := ih x List.mem_cons_self (hs x List.mem_cons_self)
        have h2 := ihr (fun y hy => ih y (List.mem_cons_of_mem _ hy)) (fun y hy => hs y (List.mem_cons_of_mem _ hy))
        omega
    have := texts_wide true l
    simp only [List.length_cons, List.length_append, List.length_nil]
    omega

def showAgg (x : List UInt8 × Nat) : Value := .tuple #[.string (bs x.1), .int .i64 x.2]

set_option maxRecDepth 100000 in
set_option maxHeartbeats 1000000 in
theorem vshow_any (v : V) (A : Option Addr) (c : Nat) (w : World) (hv : Env w) (hV : Vsl w w.heap.size A v.l) (hsz : v.size < 1000000) :
    Calls Tryz.prog 13 #[vAgg v A c] w fun e w' => e = .returned (showAgg (showV v)) ∧ Below w.heap.size w w' := by
  have HC := Lib.hid (fun W hW => vcheck_any v A c W hW hsz)
  have HV := Lib.hid hV
  change Hid (∀ W, Vsl W W.heap.size A v.l → Calls Tryz.prog 30 #[.agg #[.int .u8 v.k, .int .i64 v.n, .slice A v.l.length c]] W _) at HC
  show Calls Tryz.prog 13 #[.agg #[.int .u8 v.k, .int .i64 v.n, .slice A v.l.length c]] w fun e w' => e = .returned (showAgg (showV v)) ∧ Below w.heap.size w w'
  have hchk : v.check = 0 → v.first = 0 ∧ v.text.length ≤ 1000000000 := fun h => by
    obtain ⟨h1, _, h3⟩ := check_first h
    have := text_len v h1
    exact ⟨h1, by omega⟩
  have hWr := fun (h : v.check = 0) => write_ok v (hchk h).1
  obtain ⟨R, hR⟩ : ∃ R, R = showV v := ⟨_, rfl⟩
  rw [← hR]
  unfold showV at hR
  have HR := Lib.hid hR; have HW := Lib.hid hWr; have HK := Lib.hid hchk
  clear hWr hV hchk hR
  generalize hE : v.check = E at HC HR HW HK
  clear hE
  go_enter Tryz.func13, Tryz.ntmps13
  by_cases hE : E = 0
  · subst hE
    have hKl := (HK.out rfl).2
    go_wp2_with fail
    refine (HC.out _ ((HV.out.alloc (Nat.le_refl _) _).more (by simp))).mono ?_
    rintro e w1 ⟨rfl, hb1'⟩
    have hb1 := ((Below.refl w.heap.size w).alloc (Nat.le_refl _) (.cells #[.int .u8 v.k, .int .i64 v.n, .slice A v.l.length c] 24)).trans (hb1'.mono (by simp))
    have hvb := ((Blk.new w 24 #[.int .u8 v.k, .int .i64 v.n, .slice A v.l.length c]).below hb1' (by simp)).alloc (.cells #[.pointer none, .slice none 0 0] 62)
    obtain ⟨⟨q0, q1, q2⟩, _⟩ := hvb.three
    clear hb1' hvb
    have hb2 := hb1.alloc hb1.size (.cells #[.pointer none, .slice none 0 0] 62)
    have hA2 := (HV.out.held hb2).more hb1.size
    have hbl : Lib.IsBuilderF 62 5 w1.heap.size w1.heap.size (Lib.byteCells []) (w1.alloc (.cells #[.pointer none, .slice none 0 0] 62)) :=
      .inl ⟨Nat.le_refl _, .slice none 0 0, heap_alloc_new w1 _, ⟨by simp [Lib.byteCells], .inl ⟨rfl, rfl⟩⟩, by simp [Value.ownBlock]⟩
    go_wp2_with fail
    refine (HW.out (by trivial) w _ w1.heap.size w1.heap.size [] A c hv hb2 hb1.size (by simp) hbl (by simp; omega) hA2).mono ?_
    rintro e w2 ⟨rfl, hB2, hb3, _⟩
    have hx := hb2.trans (((Below.refl _ _).trans hb3).mono hb1.size)
    rw [List.nil_append] at hB2
    generalize v.text = acc at *
    rw [if_neg (by simp)] at HR
    have hbld := Or.inr (a := Lib.BuilderAtF 62 5 w1.heap.size w1.heap.size (.pointer none) (Lib.byteCells acc) w2) hB2
    have hsz1 : w1.heap.size ≤ w2.heap.size := by have := hb3.size; simp at this; omega
    have hw1 := hb1.size
    clear hb1 hb2 hb3 hB2 hA2 hbl
    by_cases hlong : 65536 < acc.length
    · rw [if_pos hlong] at HR
      have hl1 : (65536 : Int) < ((Lib.byteCells acc).length : Int) := by rw [Lib.byteCells_length]; omega
      go_wp2_with fail
      refine (Tryz.Builder_Len_f w1.heap.size w1.heap.size _ _ hbld).mono ?_
      rintro e' w3 ⟨rfl, hw⟩
      subst hw
      go_wp2_with fail
      refine bodyPost_ret (v := .tuple #[.string ⟨#[]⟩, .int .i64 5]) (by simp [results, Tryz.results13, go_sem]) rfl ⟨by rw [HR.out]; rfl, hx⟩
    · rw [if_neg hlong] at HR
      have hl1 : ¬ (65536 : Int) < ((Lib.byteCells acc).length : Int) := by rw [Lib.byteCells_length]; omega
      go_wp2_with fail
      refine (Tryz.Builder_Len_f w1.heap.size w1.heap.size _ _ hbld).mono ?_
      rintro e' w3 ⟨rfl, hw⟩
      subst hw
      go_wp2_with fail
      refine (Tryz.Builder_String_any_f w1.heap.size w1.heap.size acc _ hbld hsz1).mono ?_
      rintro e' w4 ⟨rfl, _, hb4⟩
      go_wp2_with fail
      refine bodyPost_ret (v := .tuple #[.string (bs acc), .int .i64 0]) (by simp [results, Tryz.results13, go_sem, bs]) rfl ⟨by rw [HR.out]; rfl, hx.trans (hb4.mono hw1)⟩
  · rw [if_pos hE] at HR
    have hne : ((E : Int) == 0) = false := beq_eq_false_iff_ne.2 (by omega)
    have hne' : ((E : Int) != 0) = true := bne_iff_ne.2 (by omega)
    go_wp2_with fail
    refine (HC.out _ ((HV.out.alloc (Nat.le_refl _) _).more (by simp))).mono ?_
    rintro e w1 ⟨rfl, hb1'⟩
    have hb1 := ((Below.refl w.heap.size w).alloc (Nat.le_refl _) (.cells #[.int .u8 v.k, .int .i64 v.n, .slice A v.l.length c] 24)).trans (hb1'.mono (by simp))
    clear hb1'
    go_wp2_with fail
    refine bodyPost_ret (v := .tuple #[.string ⟨#[]⟩, .int .i64 E]) (by simp [results, Tryz.results13, go_sem]) rfl ⟨by rw [HR.out]; rfl, hb1⟩
end Go.Proofs.YtbhekkkijomglaaGreatDoor
