/- The walk of the statement LexNames. -/
import Derived.Test.YtcagfnllfenokaaDoorLnA
namespace Go.Proofs.YtcagfnllfenokaaDoor
open Go.RowKit
set_option maxRecDepth 100000 in
set_option maxHeartbeats 8000000 in
theorem lnames_walk (w : World) (hv : Env w) :
    Calls Tryd.prog 3 #[] w fun e w' => e = .returned (.bool true) ∧ Below w.heap.size w w' := by
  go_enter Tryd.func3, Tryd.ntmps3
  go_wp2_with fail
  refine (awake_any _ hv).mono ?_
  rintro e w1 ⟨rfl, hb1⟩
  have HX := Lib.hid (Ln.mk (hv.step hb1) hb1)
  clear hb1
  go_wp2_with fail
  go_loopw [1, 2] (fun s i wr => ∃ q : Nat, q ≤ 1024 ∧ i = .int .i64 q ∧ s = .string (bs (List.replicate q 49)) ∧ wr = w1) (fun _ i _ => 1024 - (intOf i).toNat)
  case atStart => exact ⟨0, Nat.zero_le _, rfl, rfl, rfl⟩
  case round =>
    obtain ⟨q, hq, rfl, rfl, rfl⟩ := hrel
    by_cases hlt : q < 1024
    · have hlt' : (q : Int) < 1024 := by omega
      have hsz : (bs (List.replicate q 49)).size ≤ 2000 := by rw [bs_size, List.length_replicate]; omega
      go_wp2_with fail
      go_roundw
      case rel => exact ⟨q + 1, by omega, by go_num, by rw [show (⟨#[49]⟩ : ByteArray) = bs [49] from rfl, bs_append, List.replicate_succ'], by first | rfl | trivial⟩
      case measure => simp [intOf]; omega
    · have hlt' : ¬ (q : Int) < 1024 := by omega
      obtain rfl : q = 1024 := by omega
      obtain ⟨O, hO⟩ : ∃ O, O = bs (List.replicate 1024 49) := ⟨_, rfl⟩
      rw [← hO]
      have HO := Lib.hid hO
      have sO : O.size ≤ 2000 := by rw [hO, bs_size, List.length_replicate]; decide
      clear hO hlt hq
      go_wp2_with fail
      have hB0 := Blk.new wr 24 (lnC O)
      have HK := Lib.hid (And.intro (HX.out.held ((Below.refl wr.heap.size wr).alloc (Nat.le_refl _) (.cells (lnC O) 24))) hB0)
      clear hB0
      generalize hg0 : wr.heap.size = g0 at HK ⊢
      clear hg0
      go_loopw [91] (fun i wq => ∃ k : Nat, k ≤ 28 ∧ i = .int .i64 k ∧ Hid (Ln w wq ∧ Blk wq g0 24 (lnC O))) (fun i _ => 28 - (intOf i).toNat)
      case atStart => exact ⟨0, Nat.zero_le _, rfl, HK⟩
      case round =>
        obtain ⟨k, hk, rfl, HR⟩ := hrel
        by_cases hlt : k < 28
        · have hlt' : (k : Int) < 28 := by omega
          obtain ⟨y0, y1, y2⟩ := lnC_at O k hlt
          have c0 := (HR.out.2.cell _).trans y0
          have c1 := (HR.out.2.cell _).trans y1
          have c2 := (HR.out.2.cell _).trans y2
          clear y0 y1 y2
          go_wp2_with fail
          refine (all_ln HO.out k hlt _ (HR.out.1.e.alloc _)).mono ?_
          rintro e w2 ⟨v2, rfl, hb2⟩
          have kX := (Blk.new wr 24 #[.string (lnS O k), .int .i64 (lnP k), .int .i64 (lnE k)]).below hb2 (by simp)
          have x1 := kX.cell 1
          have x2 := kX.cell 2
          simp only [List.getElem?_toArray, List.getElem?_cons_succ, List.getElem?_cons_zero] at x1 x2
          have hbb := ((Below.refl wr.heap.size wr).alloc (Nat.le_refl _) (.cells #[.string (lnS O k), .int .i64 (lnP k), .int .i64 (lnE k)] 24)).trans (hb2.mono (by simp))
          have HN := Lib.hid (And.intro (HR.out.1.held hbb) (HR.out.2.below hbb HR.out.2.lt))
          clear kX hbb hb2 c0 c1 c2
          go_wp2_with fail
          go_roundw
          case rel => exact ⟨k + 1, by omega, by go_num, HN⟩
          case measure => simp [intOf]; omega
        · have hlt' : ¬ (k : Int) < 28 := by omega
          have HN := Lib.hid HR.out.1
          clear HR HK
          go_wp2_with fail
          refine (all_a _ HN.out.e).mono ?_
          rintro e w3 ⟨A3, c3, rfl, hb3⟩
          have H3 := Lib.hid (HN.out.held hb3)
          clear hb3 HN
          go_wp2_with fail
          refine (all_b _ H3.out.e).mono ?_
          rintro e w4 ⟨g4, c4, rfl, hb4, hM4⟩
          have H4 := Lib.hid (And.intro (H3.out.held hb4) hM4)
          clear hb4 hM4 H3
          go_wp2_with fail
          go_loopw [11] (fun i wq => ∃ k : Nat, k ≤ 6 ∧ i = .int .i64 k ∧ wq = w4) (fun i _ => 6 - (intOf i).toNat)
          case atStart => exact ⟨0, Nat.zero_le _, rfl, by first | rfl | trivial⟩
          case round =>
            obtain ⟨k, hk, rfl, hwq⟩ := hrel
            subst hwq
            by_cases hl6 : k < 6
            · have hl7 : (k : Int) < 6 := by omega
              have hm : lnM[k]? = some (k + 1, (k : Int), (k : Int) + 1, 0, []) := by
                match k, hl6 with
                | 0, _ => rfl
                | 1, _ => rfl
                | 2, _ => rfl
                | 3, _ => rfl
                | 4, _ => rfl
                | 5, _ => rfl
              obtain ⟨d0, d1, d2, d3, d4⟩ := H4.out.2.five hm
              simp only [Nat.zero_add] at d0 d1 d2 d3 d4
              have hwk : IntKind.u8.wrap ((k : Int) + 1) = (k : Int) + 1 := IntWalk.u8_in _ ⟨by omega, by omega⟩
              clear hm
              have hnil : (bs []).toList = [] := by rw [Lib.toList_data, bs_list]
              go_wp2_with fail
              go_roundw
              case rel => exact ⟨k + 1, by omega, by go_num, by first | rfl | trivial⟩
              case measure => simp [intOf]; omega
            · have hl7 : ¬ (k : Int) < 6 := by omega
              have H5 := Lib.hid (LnS.mk H4.out.1 H4.out.2)
              clear H4
              obtain ⟨i0, hi, hz0, hz1, hz2⟩ := info_parts (P := Tryd.prog) (e := 5) (z := .int .u8 0) (size := 1) (bytes := 1) (by kernel_rfl)
              obtain ⟨CS, hCS⟩ : ∃ CS, madeCells (Value.int .u8 0).cells (65537 * 1) = CS := ⟨_, rfl⟩
              have hcv := conv_zeros 65537 wr.heap.size (wr.alloc (.cells CS 5)) (by rw [← hCS]; exact Blk.new _ _ _)
              obtain ⟨Z, hZ⟩ : ∃ Z, Z = bs (List.replicate 65537 0) := ⟨_, rfl⟩
              rw [← hZ] at hcv
              have hZs : 65536 < Z.size ∧ Z.size ≤ maxLen := by rw [hZ, bs_size, List.length_replicate]; unfold maxLen; decide
              have HZ := Lib.hid hZs
              have HI := Lib.hid (And.intro hi (And.intro hz0 (And.intro hz1 hz2)))
              have HCS := Lib.hid hCS
              clear hZ hZs hCS hi hz0 hz1 hz2
              go_wp2_with (at_make; refine wpList_make_cells _ rfl _ _ 31 rfl 5 i0 (.int .u8 0) 1 Tryd.underlying31 HI.out.1 HI.out.2.1 HI.out.2.2.1 65537 65537 65537 rfl rfl rfl rfl (by rw [HI.out.2.2.2]; decide) (by decide) CS HCS.out ?_)
              refine (all_far Z _ HZ.out.1 HZ.out.2).mono ?_
              rintro e w5 ⟨rfl, rfl⟩
              have H6 := Lib.hid (H5.out.alloc (.cells CS 5))
              clear hcv HZ HCS HI
              go_wp2_with fail
              refine (next_a _ H6.out.l.e).mono ?_
              rintro e w6 ⟨rfl, hb6⟩
              have H7 := Lib.hid (And.intro ((H6.out.held hb6).alloc (.cells #[.int .u8 7, .int .i64 1, .int .i64 2, .int .i64 0, .string ⟨#[98]⟩] 30)) (show mB (w6.alloc (.cells #[.int .u8 7, .int .i64 1, .int .i64 2, .int .i64 0, .string ⟨#[98]⟩] 30)) w6.heap.size from Blk.new _ _ _))
              clear hb6 H5
              go_wp2_with fail
              refine (next_b _ H7.out.1.l.e).mono ?_
              rintro e w7 ⟨rfl, hb7⟩
              have H8 := Lib.hid (LnT.mk ((H7.out.1.held hb7).alloc (.cells #[.int .u8 10, .int .i64 2, .int .i64 2, .int .i64 0, .string ⟨#[]⟩] 30)) ((H7.out.2.below hb7 H7.out.2.lt).alloc _) (show nB (w7.alloc (.cells #[.int .u8 10, .int .i64 2, .int .i64 2, .int .i64 0, .string ⟨#[]⟩] 30)) w7.heap.size from Blk.new _ _ _))
              clear hb7 H6
              generalize w6.heap.size = gm at H7 H8 ⊢
              clear H7
              go_wp2_with fail
              refine (next_c _ H8.out.s.l.e).mono ?_
              rintro e w8 ⟨rfl, hb8⟩
              have H9 := Lib.hid ((H8.out.held hb8).alloc zM)
              clear hb8
              generalize w7.heap.size = gn at H8 H9 ⊢
              clear H8
              go_wp2_with fail
              refine (next_d _ H9.out.s.l.e).mono ?_
              rintro e w9 ⟨rfl, hb9⟩
              have HA := Lib.hid ((H9.out.held hb9).alloc zM)
              clear hb9
              generalize w8.heap.size = go8 at H9 HA ⊢
              clear H9
              obtain ⟨i5, mi, mz0, mz1, mz2⟩ := info_parts (P := Tryd.prog) (e := 30) (z := .agg #[.int .u8 0, .int .i64 0, .int .i64 0, .int .i64 0, .string ⟨#[]⟩]) (size := 5) (bytes := 48) (by kernel_rfl)
              obtain ⟨CM, hCM⟩ : ∃ CM, madeCells (Value.agg #[.int .u8 0, .int .i64 0, .int .i64 0, .int .i64 0, .string ⟨#[]⟩]).cells (32769 * 5) = CM := ⟨_, rfl⟩
              have HM := Lib.hid (show Many 0 CM by rw [← hCM]; exact Many.start)
              have HI := Lib.hid (And.intro mi (And.intro mz0 (And.intro mz1 mz2)))
              have HCM := Lib.hid hCM
              clear mi mz0 mz1 mz2 hCM
              go_wp2_with (at_make; refine wpList_make_cells _ rfl _ _ 26 rfl 30 i5 (.agg #[.int .u8 0, .int .i64 0, .int .i64 0, .int .i64 0, .string ⟨#[]⟩]) 5 Tryd.underlying26 HI.out.1 HI.out.2.1 HI.out.2.2.1 32769 32769 32769 rfl rfl rfl rfl (by rw [HI.out.2.2.2]; decide) (by decide) CM HCM.out ?_)
              obtain ⟨tB, htB, HJt⟩ := join_t
              have htb : ((tB.size : Int) == 65535) = true := by rw [htB]; rfl
              have HJ := Lib.hid HJt
              clear htB HJt
              go_loopw [28] (fun i wq => ∃ k : Nat, k ≤ 32769 ∧ i = .int .i64 k ∧ Hid (Below (w9.heap.size + 1) (w9.alloc zM) wq ∧ ∃ cs, Blk wq (w9.heap.size + 1) 30 cs ∧ Many k cs)) (fun i _ => 32769 - (intOf i).toNat)
              case atStart =>
                have hb := Blk.new (w9.alloc zM) 30 CM
                rw [World.size_alloc] at hb
                exact ⟨0, Nat.zero_le _, rfl, (Below.refl _ _).alloc (by simp) _, CM, hb, HM.out⟩
              case round =>
                obtain ⟨k, hk, rfl, HQ⟩ := hrel
                by_cases hl8 : k < 32769
                · have hl9 : (k : Int) < 32769 := by omega
                  obtain ⟨cs, hb, hm⟩ := HQ.out.2
                  have c0 := (hb.cell (k * 5)).trans (hm.at_ k hl8).1
                  have f0 := hb.frozen (k * 5)
                  rw [if_neg (Nat.lt_irrefl k)] at c0
                  have HS := Lib.hid (show Below (w9.heap.size + 1) (w9.alloc zM) (wr.setCell ⟨w9.heap.size + 1, k * 5, none⟩ (.int .u8 1)) ∧ ∃ cs, Blk (wr.setCell ⟨w9.heap.size + 1, k * 5, none⟩ (.int .u8 1)) (w9.heap.size + 1) 30 cs ∧ Many (k + 1) cs from ⟨HQ.out.1.setCell (p := ⟨w9.heap.size + 1, k * 5, none⟩) (Nat.le_refl _) _, _, hb.set_ _ _, hm.step hl8⟩)
                  clear hb hm HQ
                  go_wp2_with fail
                  go_roundw
                  case rel => exact ⟨k + 1, by omega, by go_num, HS⟩
                  case measure => simp [intOf]; omega
                · have hl9 : ¬ (k : Int) < 32769 := by omega
                  obtain rfl : k = 32769 := by omega
                  obtain ⟨cs, hb, hm⟩ := HQ.out.2
                  have hbel : Below (w9.alloc zM).heap.size (w9.alloc zM) wr := by rw [World.size_alloc]; exact HQ.out.1
                  have HB := Lib.hid (And.intro (HA.out.held hbel) hb)
                  have HMm := Lib.hid hm
                  clear hb hm HQ hbel HA
                  go_wp2_with fail
                  refine (join_f HB.out.2 HMm.out HB.out.1.s.l.e).mono ?_
                  rintro e x1 ⟨rfl, hx1⟩
                  have HC := Lib.hid (And.intro (HB.out.1.held hx1) (HB.out.2.below hx1 HB.out.2.lt))
                  clear hx1 HB
                  go_wp2_with fail
                  refine (HJ.out _ _ _ HC.out.2 HMm.out HC.out.1.s.l.e).mono ?_
                  rintro e x2 ⟨rfl, hx2⟩
                  have HD := Lib.hid (HC.out.1.held hx2)
                  clear hx2 HC HMm
                  go_wp2_with fail
                  refine (show_stop _ HD.out.s.l.e).mono ?_
                  rintro e x3 ⟨rfl, hx3⟩
                  have HE := Lib.hid (HD.out.held hx3)
                  clear hx3 HD
                  go_wp2_with fail
                  refine (show_num1 _ HE.out.s.l.e).mono ?_
                  rintro e x4 ⟨rfl, hx4⟩
                  have HF := Lib.hid (HE.out.held hx4)
                  clear hx4 HE
                  obtain ⟨r0, r1, r2⟩ := HF.out.s.cells
                  obtain ⟨⟨m0, m1, m2, m3, m4⟩, _⟩ := HF.out.km.five
                  obtain ⟨⟨n0, n1, n2, n3, n4⟩, _⟩ := HF.out.kn.five
                  go_wp2_with fail
                  go_ret
                  exact ⟨rfl, HF.out.s.l.b⟩
end Go.Proofs.YtcagfnllfenokaaDoor
