/- The walk of the statement VtextNames. -/
import Derived.Test.YtbhekkkijomglaaGreatDoorNmB
namespace Go.Proofs.YtbhekkkijomglaaGreatDoor
open Go.RowKit
set_option maxRecDepth 100000 in
set_option maxHeartbeats 8000000 in
theorem names_walk (w : World) (hv : Env w) :
    Calls Tryz.prog 5 #[] w fun e w' => e = .returned (.bool true) ∧ Below w.heap.size w w' := by
  have HRd : Hid (∀ k, k < 27 → ∀ W, Env W → Calls Tryz.prog 17 #[.string (nmS k)] W fun e w' => ∃ (uk : Nat) (un : Int) (A : Option Addr) (n c : Nat), e = .returned (.tuple #[.agg #[.int .u8 uk, .int .i64 un, .slice A n c], .int .i64 (nmP k), .int .i64 (nmE k)]) ∧ Below W.heap.size W w') := read_nm
  have HRt := Lib.hid read_nt
  have HSt := Lib.hid show_nt
  obtain ⟨zA, zB, zC, sA, sB, sC, HT1, HT2, HT3, HW⟩ := nm_strs
  go_enter Tryz.func5, Tryz.ntmps5
  go_wp2_with fail
  refine (awake_any _ hv).mono ?_
  rintro e w1 ⟨rfl, hb1⟩
  have HX := Lib.hid (And.intro (hv.step hb1) hb1)
  clear hb1
  go_wp2_with fail
  rename_i K1 hK1 K2 hK2
  have H1 := Lib.hid hK1
  have H2 := Lib.hid hK2
  clear hK1 hK2
  refine wp_region_any (by kernel_rfl) ?_
  refine nm_region (w := w) ⟨rfl, by kernel_rfl, ⟨_, rfl, rfl, rfl, rfl⟩, ⟨_, rfl, rfl, rfl, rfl⟩, ⟨_, rfl, rfl, rfl, rfl⟩, ⟨_, rfl, rfl, rfl, rfl⟩, ⟨_, rfl, rfl, rfl, rfl⟩, ⟨_, rfl, rfl, rfl, rfl⟩, ⟨_, rfl, rfl, rfl, rfl⟩, ⟨_, rfl, rfl, rfl, rfl⟩, ⟨_, rfl, rfl, rfl, rfl⟩, ⟨_, rfl, rfl, rfl, rfl⟩, ⟨_, rfl, rfl, rfl, rfl⟩, ⟨_, rfl, rfl, rfl, rfl⟩, ⟨_, rfl, rfl, rfl, rfl⟩, ⟨_, rfl, rfl, rfl, rfl⟩, ⟨_, rfl, rfl, rfl, rfl⟩, ⟨_, rfl, rfl, rfl, rfl⟩, ⟨_, rfl, rfl, rfl, rfl⟩, ⟨_, rfl, rfl, rfl, rfl⟩, ⟨_, rfl, rfl, rfl, rfl⟩, ⟨_, rfl, rfl, rfl, rfl⟩, ⟨_, rfl, rfl, rfl, rfl⟩, ⟨_, rfl, rfl, rfl, rfl⟩, ⟨_, rfl, rfl, rfl, rfl⟩, ⟨_, rfl, rfl, rfl, rfl⟩, ⟨_, rfl, rfl, rfl, rfl⟩, ⟨_, rfl, rfl, rfl, rfl⟩, ⟨_, rfl, rfl, rfl, rfl⟩, ⟨_, rfl, rfl, rfl, rfl⟩, ⟨_, rfl, rfl, rfl, rfl⟩, ⟨_, rfl, rfl, rfl, rfl⟩, ⟨_, rfl, rfl, rfl, rfl⟩, ⟨_, rfl, rfl, rfl, rfl⟩, ⟨_, rfl, rfl, rfl, rfl⟩, ⟨_, rfl, rfl, rfl, rfl⟩, ⟨_, rfl, rfl, rfl, rfl⟩, ⟨_, rfl, rfl, rfl, rfl⟩, ⟨_, rfl, rfl, rfl, rfl⟩, ⟨_, rfl, rfl, rfl, rfl⟩, ⟨_, rfl, rfl, rfl, rfl⟩, ⟨_, rfl, rfl, rfl, rfl⟩, ⟨_, rfl, rfl, rfl, rfl⟩, ⟨_, rfl, rfl, rfl, rfl⟩, ⟨_, rfl, rfl, rfl, rfl⟩, ⟨_, rfl, rfl, rfl, rfl⟩, ⟨_, rfl, rfl, rfl, rfl⟩, ⟨_, rfl, rfl, rfl, rfl⟩, ⟨_, rfl, rfl, rfl, rfl⟩, ⟨_, rfl, rfl, rfl, rfl⟩, ⟨_, rfl, rfl, rfl, rfl⟩, ⟨_, rfl, rfl, rfl, rfl⟩, ⟨_, rfl, rfl, rfl, rfl⟩, by kernel_rfl, by kernel_rfl, by kernel_rfl, by kernel_rfl, by kernel_rfl, by kernel_rfl, by kernel_rfl, by kernel_rfl, by kernel_rfl, by kernel_rfl, by kernel_rfl, by kernel_rfl, by kernel_rfl, by kernel_rfl, by kernel_rfl, by kernel_rfl, by kernel_rfl, by kernel_rfl, by kernel_rfl, by kernel_rfl, by kernel_rfl, by kernel_rfl, by kernel_rfl⟩ rfl rfl (HX.out.1.q ⟨1, rfl⟩) (below_drewN HX.out.2 1) ?_
  intro a' W g ha hd s1 s2 s3 hB hE hBe
  obtain ⟨fl, rfl⟩ := fr280_of a' g ha hd s1 s2 s3
  clear ha hd s1 s2 s3
  have HN := Lib.hid (Nm.mk hE hBe hB)
  clear hE hBe hB HX
  refine H2.out _ _ ?_
  clear H2
  go_wp2_with fail
  go_loopw [103] (fun i wr => ∃ k : Nat, k ≤ 27 ∧ i = .int .i64 k ∧ Hid (Nm w wr g)) (fun i _ => 27 - (intOf i).toNat)
  case atStart => exact ⟨0, Nat.zero_le _, rfl, HN⟩
  case round =>
    obtain ⟨k, hk, rfl, HR⟩ := hrel
    by_cases hlt : k < 27
    · have hlt' : (k : Int) < 27 := by omega
      obtain ⟨c0, c1, c2⟩ := HR.out.cells hlt
      go_wp2_with fail
      refine (HRd.out k hlt _ (HR.out.e.alloc _)).mono ?_
      rintro e w2 ⟨uk, un, A, n, c, rfl, hb2⟩
      have hal := ((Below.refl wr.heap.size wr).alloc (Nat.le_refl _) (.cells #[.string (nmS k), .int .i64 (nmP k), .int .i64 (nmE k)] 38))
      have kX := ((Blk.new wr 38 #[.string (nmS k), .int .i64 (nmP k), .int .i64 (nmE k)]).below hb2 (by simp)).alloc (.cells #[.int .u8 uk, .int .i64 un, .slice A n c] 24)
      have x1 := kX.cell 1
      have x2 := kX.cell 2
      simp only [List.getElem?_toArray, List.getElem?_cons_succ, List.getElem?_cons_zero] at x1 x2
      have HX := Lib.hid ((((HR.out.held hal).held hb2).held ((Below.refl _ _).alloc (Nat.le_refl _) (.cells #[.int .u8 uk, .int .i64 un, .slice A n c] 24))))
      clear hal kX hb2 c0 c1 c2
      go_wp2_with fail
      go_roundw
      case rel => exact ⟨k + 1, by omega, by go_num, HX⟩
      case measure => simp [intOf]; omega
    · have hlt' : ¬ (k : Int) < 27 := by omega
      have HE := Lib.hid HR.out
      go_wp2_with fail
      refine H1.out _ _ ?_
      clear H1
      go_wp2_with fail
      refine (HT1.out _).mono ?_
      rintro e w3 ⟨rfl, hb3⟩
      have HE3 := Lib.hid (HE.out.held hb3)
      clear hb3
      go_wp2_with fail
      refine (HT2.out _).mono ?_
      rintro e w4 ⟨rfl, hb4⟩
      have HE4 := Lib.hid (HE3.out.held hb4)
      clear hb4
      go_wp2_with fail
      refine (HT3.out _).mono ?_
      rintro e w5 ⟨rfl, hb5⟩
      have HE5 := Lib.hid (HE4.out.held hb5)
      clear hb5 HE HE3 HE4
      go_wp2_with fail
      generalize ((((⟨#[60]⟩ : ByteArray) ++ zB) ++ (⟨#[91]⟩ : ByteArray)) ++ zC) ++ (⟨#[93]⟩ : ByteArray) = S at HW ⊢
      have hs1 := wide_size S HW.out
      have sS : S.size ≤ 10000 := by omega
      have hw8 : IntKind.i64.wrap ((S.size : Int) + 1) = (S.size : Int) + 1 := IntWalk.i64_in _ ⟨by omega, by omega⟩
      have hne : ((8190 : Int) != (S.size : Int) + 1) = false := bne_eq_false_iff_eq.2 (by omega)
      clear hs1
      refine (read_wide S HW.out _ HE5.out.e).mono ?_
      rintro e w6 ⟨uk, un, A, n, c, rfl, hb6⟩
      have HE6 := Lib.hid ((HE5.out.held hb6).held ((Below.refl _ _).alloc (Nat.le_refl _) (.cells #[.int .u8 uk, .int .i64 un, .slice A n c] 24)))
      clear hb6 HE5
      go_wp2_with fail
      refine (read_wide1 S HW.out _ HE6.out.e).mono ?_
      rintro e w7 ⟨rfl, hb7⟩
      have HE7 := Lib.hid ((HE6.out.held hb7).held ((Below.refl _ _).alloc (Nat.le_refl _) (.cells #[.int .u8 0, .int .i64 0, .slice none 0 0] 24)))
      clear hb7 HE6
      go_wp2_with fail
      refine (read_wide2 S HW.out _ HE7.out.e).mono ?_
      rintro e w8 ⟨rfl, hb8⟩
      have HE8 := Lib.hid ((HE7.out.held hb8).held ((Below.refl _ _).alloc (Nat.le_refl _) (.cells #[.int .u8 0, .int .i64 0, .slice none 0 0] 24)))
      clear hb8 HE7
      go_wp2_with fail
      go_loopw [185] (fun i wr => ∃ k : Nat, k ≤ 9 ∧ i = .int .i64 k ∧ Hid (Nm w wr g ∧ Blk wr (w8.heap.size + 1) 9 nt9)) (fun i _ => 9 - (intOf i).toNat)
      case atStart =>
        refine ⟨0, Nat.zero_le _, rfl, HE8.out.held ((Below.refl _ _).alloc (Nat.le_refl _) _), ?_⟩
        have hb := Blk.new (w8.alloc (.cells #[.int .u8 0, .int .i64 0, .slice none 0 0] 24)) 9 nt9
        rw [World.size_alloc] at hb
        exact hb
      case round =>
        obtain ⟨k, hk, rfl, HQ⟩ := hrel
        by_cases hl2 : k < 9
        · have hl3 : (k : Int) < 9 := by omega
          have c0 := (HQ.out.2.cell k).trans (nt9_at k hl2)
          have heq : ((bs (nmT k)).toList == (bs (nmT k)).toList) = true := beq_self_eq_true _
          go_wp2_with fail
          refine (HRt.out k hl2 _ HQ.out.1.e).mono ?_
          rintro e w2 ⟨A, c, rfl, hb2, hV⟩
          have hal := ((Below.refl w2.heap.size w2).alloc (Nat.le_refl _) (.cells #[.int .u8 (nmV k).k, .int .i64 (nmV k).n, .slice A (nmV k).l.length c] 24))
          have HF := Lib.hid (And.intro ((HQ.out.1.held hb2).held hal) (And.intro ((HQ.out.2.below hb2 HQ.out.2.lt).below hal (Nat.lt_of_lt_of_le HQ.out.2.lt hb2.size)) ((hV.out.held hal).more hal.size)))
          clear hb2 hV hal c0
          go_wp2_with fail
          refine (HSt.out k hl2 A c _ HF.out.1.e HF.out.2.2).mono ?_
          rintro e w3 ⟨rfl, hb3⟩
          have HG := Lib.hid (And.intro (HF.out.1.held hb3) (HF.out.2.1.below hb3 HF.out.2.1.lt))
          clear hb3 HF
          go_wp2_with fail
          go_roundw
          case rel => exact ⟨k + 1, by omega, by go_num, HG⟩
          case measure => simp [intOf]; omega
        · have hl3 : ¬ (k : Int) < 9 := by omega
          have HF := Lib.hid HQ.out.1
          clear HQ
          go_wp2_with fail
          refine (show_no _ HF.out.e).mono ?_
          rintro e v1 ⟨rfl, hb1⟩
          have G1 := Lib.hid (HF.out.held hb1)
          clear hb1
          go_wp2_with fail
          refine (tnum_any 1099511627777 _).mono ?_
          rintro e v2 ⟨rfl, hb2⟩
          have G2 := Lib.hid (G1.out.held hb2)
          clear hb2 HF
          go_wp2_with fail
          refine (show_far _ G2.out.e).mono ?_
          rintro e v3 ⟨rfl, hb3⟩
          have G3 := Lib.hid (G2.out.held hb3)
          clear hb3 G1
          go_wp2_with fail
          refine (part_a _ G3.out.e).mono ?_
          rintro e v4 ⟨rfl, hb4⟩
          have G4 := Lib.hid ((G3.out.held hb4).held ((Below.refl _ _).alloc (Nat.le_refl _) (.cells #[.int .u8 0, .int .i64 0, .slice none 0 0] 24)))
          clear hb4 G2
          go_wp2_with fail
          refine (part_b _ G4.out.e).mono ?_
          rintro e v5 ⟨rfl, hb5⟩
          have G5 := Lib.hid ((G4.out.held hb5).held ((Below.refl _ _).alloc (Nat.le_refl _) (.cells #[.int .u8 0, .int .i64 0, .slice none 0 0] 24)))
          clear hb5 G3
          go_wp2_with fail
          refine (part_c _ G5.out.e).mono ?_
          rintro e v6 ⟨A6, c6, rfl, hb6⟩
          have G6 := Lib.hid ((G5.out.held hb6).held ((Below.refl _ _).alloc (Nat.le_refl _) (.cells #[.int .u8 1, .int .i64 7, .slice A6 0 c6] 24)))
          clear hb6 G4
          go_wp2_with fail
          refine (part_d _ G6.out.e).mono ?_
          rintro e v7 ⟨rfl, hb7⟩
          have G7 := Lib.hid ((G6.out.held hb7).held ((Below.refl _ _).alloc (Nat.le_refl _) (.cells #[.int .u8 0, .int .i64 0, .slice none 0 0] 24)))
          clear hb7 G5
          go_wp2_with fail
          go_ret
          exact ⟨rfl, G7.out.b⟩
end Go.Proofs.YtbhekkkijomglaaGreatDoor
